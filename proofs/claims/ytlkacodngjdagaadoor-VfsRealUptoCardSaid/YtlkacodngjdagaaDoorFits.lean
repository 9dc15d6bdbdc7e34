/- fits, below: a node's error; a name within a folder. -/
import Derived.Test.YtlkacodngjdagaaDoorPath
import Derived.Test.YtlkacodngjdagaaDoorKinds
namespace Go.Proofs.YtlkacodngjdagaaDoor.Vfs
open Go Go.RowKit Go.Proofs.YtlkacodngjdagaaDoorW.PrintWords Go.Proofs.YtlkacodngjdagaaDoor.Kinds Go.Proofs.YtlkacodngjdagaaDoor.Str Go.Proofs.YtlkacodngjdagaaDoor.Ev Go.Proofs.YtlkacodngjdagaaDoor.Frame
set_option linter.unusedVariables false

theorem ret_int {x y : Int} {k : IntKind} (h : x = y) : Ending.returned (.int k x) = .returned (.int k y) := by rw [h]
theorem ret_str {x y : ByteArray} (h : x = y) : Ending.returned (.string x) = .returned (.string y) := by rw [h]

def fitsB (n : S34) : Int :=
  if isCleanB n.f0 = true then
    if n.f0.toList = [47] then 40
    else if n.f1 = 1 then (if 0 < n.f2.length ∨ ¬ n.f3.toList = [] then 60 else 0)
    else if n.f1 = 2 then (if ¬ n.f3.toList = [] then 60 else if 262144 < n.f2.length then 67 else 0)
    else if n.f1 = 3 then (if 0 < n.f2.length ∨ n.f3.toList = [] then 60 else if (joinPathB ⟨#[47]⟩ n.f3).2 = 0 then 0 else 40)
    else 60
  else 40

def belowB (dir name : ByteArray) : ByteArray := if dir.toList = [47] then ⟨#[47]⟩ ++ name else dir ++ ⟨#[47]⟩ ++ name

theorem below_any (dir name : ByteArray) (w : World) (hd : dir.size < 4611686018427387904) (hs : name.size < 4611686018427387904) :
    Calls Tryd.prog 26 #[.string dir, .string name] w fun e w' => e = .returned (.string (belowB dir name)) ∧ w' = w := by
  have h1 := slash_size
  have h2 : (dir ++ ⟨#[47]⟩).size = dir.size + 1 := by rw [ByteArray.size_append, h1]
  by_cases h : dir.toList = [47]
  · have e1 : (dir.toList == [47]) = true := beq_iff_eq.2 h
    have HB := Lib.hid (show belowB dir name = ⟨#[47]⟩ ++ name by unfold belowB; rw [if_pos h])
    go_enter Tryd.func26, Tryd.ntmps26
    go_wp2
    go_ret
    exact ⟨ret_str HB.out.symm, rfl⟩
  · have e1 : (dir.toList == [47]) = false := beq_eq_false_iff_ne.2 h
    have HB := Lib.hid (show belowB dir name = dir ++ ⟨#[47]⟩ ++ name by unfold belowB; rw [if_neg h])
    go_enter Tryd.func26, Tryd.ntmps26
    go_wp2
    go_ret
    exact ⟨ret_str HB.out.symm, rfl⟩

set_option maxRecDepth 10000 in
set_option maxHeartbeats 4000000 in
theorem fits_any (n : S34) (C : Array Value) (w : World) (hm : Mx w) (hn : k34.K w n C.toList) (hp : n.f0.size < 1048577) (ht : n.f3.size < 1048577) (hl : n.f2.length < 1048577) :
    Calls Tryd.prog 21 #[.agg C] w fun e w' => e = .returned (.int .i64 (fitsB n)) ∧ Below w.heap.size w w' := by
  obtain ⟨A2, c2, e1, l2, g2⟩ := k34_open hn
  obtain rfl : C = _ := congrArg List.toArray e1
  clear e1 l2 g2 hn
  have HIC := Lib.hid (fun (w1 : World) (h : Below w.heap.size w w1) => isClean_any n.f0 w1 (hm.below h) (by omega))
  have HJ := Lib.hid (fun (w1 : World) (h : Below w.heap.size w w1) => joinPath_any ⟨#[47]⟩ n.f3 w1 (hm.below h) (by decide) ht)
  have hu := Tryd.underlying34
  clear hm hp ht
  cases hc : isCleanB n.f0 with
  | false =>
    have HC := Lib.hid hc
    clear hc
    have HF := Lib.hid (show fitsB n = 40 by unfold fitsB; simp only [HC.out]; simp [*])
    go_enter Tryd.func21, Tryd.ntmps21
    go_wp2_with (first
      | ((with_reducible refine gate_dst (N := 1) rfl ?_); refine box_event ?hg (N := 1) ?hd (cs := #[.string n.f0, .int .i64 n.f1, .slice A2 n.f2.length c2, .string n.f3]) (t := 34) ?hr ?_; (case hd => rfl); (case hg => rfl); (case hr => first | (go_simp; done) | (go_simp; rfl)); intro g hg_ w1 hb_ hw_; have HB1 := Lib.hid hb_; have HW1 := Lib.hid hw_; have c0 := cell_blk hb_ (j := 0) rfl; clear hb_ hw_ hg_)
      | (go_at_call 35; refine (as_bool HC.out (HIC.out _ HW1.out)).mono ?_; rintro e w2 ⟨rfl, hw2⟩; have HB2 := Lib.hid (blk_below HB1.out hw2); have HW2 := Lib.hid (below_then HW1.out HW1.out.size hw2); clear hw2 c0; have c0 := cell_blk HB2.out (j := 0) rfl; have c1 := cell_blk HB2.out (j := 1) rfl; have c2' := cell_blk HB2.out (j := 2) rfl; have c3 := cell_blk HB2.out (j := 3) rfl))
    go_ret
    exact ⟨ret_int HF.out.symm, HW2.out⟩
  | true =>
    have HC := Lib.hid hc
    clear hc
    by_cases h47 : n.f0.toList = [47]
    · have e_h47 : (n.f0.toList == [47]) = true := by simp [h47]
      have HF := Lib.hid (show fitsB n = 40 by unfold fitsB; simp only [HC.out]; simp [*])
      go_enter Tryd.func21, Tryd.ntmps21
      go_wp2_with (first
        | ((with_reducible refine gate_dst (N := 1) rfl ?_); refine box_event ?hg (N := 1) ?hd (cs := #[.string n.f0, .int .i64 n.f1, .slice A2 n.f2.length c2, .string n.f3]) (t := 34) ?hr ?_; (case hd => rfl); (case hg => rfl); (case hr => first | (go_simp; done) | (go_simp; rfl)); intro g hg_ w1 hb_ hw_; have HB1 := Lib.hid hb_; have HW1 := Lib.hid hw_; have c0 := cell_blk hb_ (j := 0) rfl; clear hb_ hw_ hg_)
        | (go_at_call 35; refine (as_bool HC.out (HIC.out _ HW1.out)).mono ?_; rintro e w2 ⟨rfl, hw2⟩; have HB2 := Lib.hid (blk_below HB1.out hw2); have HW2 := Lib.hid (below_then HW1.out HW1.out.size hw2); clear hw2 c0; have c0 := cell_blk HB2.out (j := 0) rfl; have c1 := cell_blk HB2.out (j := 1) rfl; have c2' := cell_blk HB2.out (j := 2) rfl; have c3 := cell_blk HB2.out (j := 3) rfl))
      go_ret
      exact ⟨ret_int HF.out.symm, HW2.out⟩
    · have e_h47 : (n.f0.toList == [47]) = false := by simpa using h47
      by_cases k1 : n.f1 = 1
      · by_cases h2 : 0 < n.f2.length
        · have HF := Lib.hid (show fitsB n = 60 by unfold fitsB; simp only [HC.out]; simp [*])
          go_enter Tryd.func21, Tryd.ntmps21
          go_wp2_with (first
            | ((with_reducible refine gate_dst (N := 1) rfl ?_); refine box_event ?hg (N := 1) ?hd (cs := #[.string n.f0, .int .i64 n.f1, .slice A2 n.f2.length c2, .string n.f3]) (t := 34) ?hr ?_; (case hd => rfl); (case hg => rfl); (case hr => first | (go_simp; done) | (go_simp; rfl)); intro g hg_ w1 hb_ hw_; have HB1 := Lib.hid hb_; have HW1 := Lib.hid hw_; have c0 := cell_blk hb_ (j := 0) rfl; clear hb_ hw_ hg_)
            | (go_at_call 35; refine (as_bool HC.out (HIC.out _ HW1.out)).mono ?_; rintro e w2 ⟨rfl, hw2⟩; have HB2 := Lib.hid (blk_below HB1.out hw2); have HW2 := Lib.hid (below_then HW1.out HW1.out.size hw2); clear hw2 c0; have c0 := cell_blk HB2.out (j := 0) rfl; have c1 := cell_blk HB2.out (j := 1) rfl; have c2' := cell_blk HB2.out (j := 2) rfl; have c3 := cell_blk HB2.out (j := 3) rfl))
          go_ret
          exact ⟨ret_int HF.out.symm, HW2.out⟩
        · by_cases h3 : n.f3.toList = []
          · have e_h3 : (n.f3.toList == []) = true := by simp [h3]
            have HF := Lib.hid (show fitsB n = 0 by unfold fitsB; simp only [HC.out]; simp [*])
            go_enter Tryd.func21, Tryd.ntmps21
            go_wp2_with (first
              | ((with_reducible refine gate_dst (N := 1) rfl ?_); refine box_event ?hg (N := 1) ?hd (cs := #[.string n.f0, .int .i64 n.f1, .slice A2 n.f2.length c2, .string n.f3]) (t := 34) ?hr ?_; (case hd => rfl); (case hg => rfl); (case hr => first | (go_simp; done) | (go_simp; rfl)); intro g hg_ w1 hb_ hw_; have HB1 := Lib.hid hb_; have HW1 := Lib.hid hw_; have c0 := cell_blk hb_ (j := 0) rfl; clear hb_ hw_ hg_)
              | (go_at_call 35; refine (as_bool HC.out (HIC.out _ HW1.out)).mono ?_; rintro e w2 ⟨rfl, hw2⟩; have HB2 := Lib.hid (blk_below HB1.out hw2); have HW2 := Lib.hid (below_then HW1.out HW1.out.size hw2); clear hw2 c0; have c0 := cell_blk HB2.out (j := 0) rfl; have c1 := cell_blk HB2.out (j := 1) rfl; have c2' := cell_blk HB2.out (j := 2) rfl; have c3 := cell_blk HB2.out (j := 3) rfl))
            go_ret
            exact ⟨ret_int HF.out.symm, HW2.out⟩
          · have e_h3 : (n.f3.toList == []) = false := by simpa using h3
            have HF := Lib.hid (show fitsB n = 60 by unfold fitsB; simp only [HC.out]; simp [*])
            go_enter Tryd.func21, Tryd.ntmps21
            go_wp2_with (first
              | ((with_reducible refine gate_dst (N := 1) rfl ?_); refine box_event ?hg (N := 1) ?hd (cs := #[.string n.f0, .int .i64 n.f1, .slice A2 n.f2.length c2, .string n.f3]) (t := 34) ?hr ?_; (case hd => rfl); (case hg => rfl); (case hr => first | (go_simp; done) | (go_simp; rfl)); intro g hg_ w1 hb_ hw_; have HB1 := Lib.hid hb_; have HW1 := Lib.hid hw_; have c0 := cell_blk hb_ (j := 0) rfl; clear hb_ hw_ hg_)
              | (go_at_call 35; refine (as_bool HC.out (HIC.out _ HW1.out)).mono ?_; rintro e w2 ⟨rfl, hw2⟩; have HB2 := Lib.hid (blk_below HB1.out hw2); have HW2 := Lib.hid (below_then HW1.out HW1.out.size hw2); clear hw2 c0; have c0 := cell_blk HB2.out (j := 0) rfl; have c1 := cell_blk HB2.out (j := 1) rfl; have c2' := cell_blk HB2.out (j := 2) rfl; have c3 := cell_blk HB2.out (j := 3) rfl))
            go_ret
            exact ⟨ret_int HF.out.symm, HW2.out⟩
      · by_cases k2 : n.f1 = 2
        · by_cases h3 : n.f3.toList = []
          · have e_h3 : (n.f3.toList == []) = true := by simp [h3]
            by_cases h2 : 262144 < n.f2.length
            · have HF := Lib.hid (show fitsB n = 67 by unfold fitsB; simp only [HC.out]; simp [*])
              go_enter Tryd.func21, Tryd.ntmps21
              go_wp2_with (first
                | ((with_reducible refine gate_dst (N := 1) rfl ?_); refine box_event ?hg (N := 1) ?hd (cs := #[.string n.f0, .int .i64 n.f1, .slice A2 n.f2.length c2, .string n.f3]) (t := 34) ?hr ?_; (case hd => rfl); (case hg => rfl); (case hr => first | (go_simp; done) | (go_simp; rfl)); intro g hg_ w1 hb_ hw_; have HB1 := Lib.hid hb_; have HW1 := Lib.hid hw_; have c0 := cell_blk hb_ (j := 0) rfl; clear hb_ hw_ hg_)
                | (go_at_call 35; refine (as_bool HC.out (HIC.out _ HW1.out)).mono ?_; rintro e w2 ⟨rfl, hw2⟩; have HB2 := Lib.hid (blk_below HB1.out hw2); have HW2 := Lib.hid (below_then HW1.out HW1.out.size hw2); clear hw2 c0; have c0 := cell_blk HB2.out (j := 0) rfl; have c1 := cell_blk HB2.out (j := 1) rfl; have c2' := cell_blk HB2.out (j := 2) rfl; have c3 := cell_blk HB2.out (j := 3) rfl))
              go_ret
              exact ⟨ret_int HF.out.symm, HW2.out⟩
            · have HF := Lib.hid (show fitsB n = 0 by unfold fitsB; simp only [HC.out]; simp [*])
              go_enter Tryd.func21, Tryd.ntmps21
              go_wp2_with (first
                | ((with_reducible refine gate_dst (N := 1) rfl ?_); refine box_event ?hg (N := 1) ?hd (cs := #[.string n.f0, .int .i64 n.f1, .slice A2 n.f2.length c2, .string n.f3]) (t := 34) ?hr ?_; (case hd => rfl); (case hg => rfl); (case hr => first | (go_simp; done) | (go_simp; rfl)); intro g hg_ w1 hb_ hw_; have HB1 := Lib.hid hb_; have HW1 := Lib.hid hw_; have c0 := cell_blk hb_ (j := 0) rfl; clear hb_ hw_ hg_)
                | (go_at_call 35; refine (as_bool HC.out (HIC.out _ HW1.out)).mono ?_; rintro e w2 ⟨rfl, hw2⟩; have HB2 := Lib.hid (blk_below HB1.out hw2); have HW2 := Lib.hid (below_then HW1.out HW1.out.size hw2); clear hw2 c0; have c0 := cell_blk HB2.out (j := 0) rfl; have c1 := cell_blk HB2.out (j := 1) rfl; have c2' := cell_blk HB2.out (j := 2) rfl; have c3 := cell_blk HB2.out (j := 3) rfl))
              go_ret
              exact ⟨ret_int HF.out.symm, HW2.out⟩
          · have e_h3 : (n.f3.toList == []) = false := by simpa using h3
            have HF := Lib.hid (show fitsB n = 60 by unfold fitsB; simp only [HC.out]; simp [*])
            go_enter Tryd.func21, Tryd.ntmps21
            go_wp2_with (first
              | ((with_reducible refine gate_dst (N := 1) rfl ?_); refine box_event ?hg (N := 1) ?hd (cs := #[.string n.f0, .int .i64 n.f1, .slice A2 n.f2.length c2, .string n.f3]) (t := 34) ?hr ?_; (case hd => rfl); (case hg => rfl); (case hr => first | (go_simp; done) | (go_simp; rfl)); intro g hg_ w1 hb_ hw_; have HB1 := Lib.hid hb_; have HW1 := Lib.hid hw_; have c0 := cell_blk hb_ (j := 0) rfl; clear hb_ hw_ hg_)
              | (go_at_call 35; refine (as_bool HC.out (HIC.out _ HW1.out)).mono ?_; rintro e w2 ⟨rfl, hw2⟩; have HB2 := Lib.hid (blk_below HB1.out hw2); have HW2 := Lib.hid (below_then HW1.out HW1.out.size hw2); clear hw2 c0; have c0 := cell_blk HB2.out (j := 0) rfl; have c1 := cell_blk HB2.out (j := 1) rfl; have c2' := cell_blk HB2.out (j := 2) rfl; have c3 := cell_blk HB2.out (j := 3) rfl))
            go_ret
            exact ⟨ret_int HF.out.symm, HW2.out⟩
        · by_cases k3 : n.f1 = 3
          · by_cases h2 : 0 < n.f2.length
            · have HF := Lib.hid (show fitsB n = 60 by unfold fitsB; simp only [HC.out]; simp [*])
              go_enter Tryd.func21, Tryd.ntmps21
              go_wp2_with (first
                | ((with_reducible refine gate_dst (N := 1) rfl ?_); refine box_event ?hg (N := 1) ?hd (cs := #[.string n.f0, .int .i64 n.f1, .slice A2 n.f2.length c2, .string n.f3]) (t := 34) ?hr ?_; (case hd => rfl); (case hg => rfl); (case hr => first | (go_simp; done) | (go_simp; rfl)); intro g hg_ w1 hb_ hw_; have HB1 := Lib.hid hb_; have HW1 := Lib.hid hw_; have c0 := cell_blk hb_ (j := 0) rfl; clear hb_ hw_ hg_)
                | (go_at_call 35; refine (as_bool HC.out (HIC.out _ HW1.out)).mono ?_; rintro e w2 ⟨rfl, hw2⟩; have HB2 := Lib.hid (blk_below HB1.out hw2); have HW2 := Lib.hid (below_then HW1.out HW1.out.size hw2); clear hw2 c0; have c0 := cell_blk HB2.out (j := 0) rfl; have c1 := cell_blk HB2.out (j := 1) rfl; have c2' := cell_blk HB2.out (j := 2) rfl; have c3 := cell_blk HB2.out (j := 3) rfl))
              go_ret
              exact ⟨ret_int HF.out.symm, HW2.out⟩
            · by_cases h3 : n.f3.toList = []
              · have e_h3 : (n.f3.toList == []) = true := by simp [h3]
                have HF := Lib.hid (show fitsB n = 60 by unfold fitsB; simp only [HC.out]; simp [*])
                go_enter Tryd.func21, Tryd.ntmps21
                go_wp2_with (first
                  | ((with_reducible refine gate_dst (N := 1) rfl ?_); refine box_event ?hg (N := 1) ?hd (cs := #[.string n.f0, .int .i64 n.f1, .slice A2 n.f2.length c2, .string n.f3]) (t := 34) ?hr ?_; (case hd => rfl); (case hg => rfl); (case hr => first | (go_simp; done) | (go_simp; rfl)); intro g hg_ w1 hb_ hw_; have HB1 := Lib.hid hb_; have HW1 := Lib.hid hw_; have c0 := cell_blk hb_ (j := 0) rfl; clear hb_ hw_ hg_)
                  | (go_at_call 35; refine (as_bool HC.out (HIC.out _ HW1.out)).mono ?_; rintro e w2 ⟨rfl, hw2⟩; have HB2 := Lib.hid (blk_below HB1.out hw2); have HW2 := Lib.hid (below_then HW1.out HW1.out.size hw2); clear hw2 c0; have c0 := cell_blk HB2.out (j := 0) rfl; have c1 := cell_blk HB2.out (j := 1) rfl; have c2' := cell_blk HB2.out (j := 2) rfl; have c3 := cell_blk HB2.out (j := 3) rfl))
                go_ret
                exact ⟨ret_int HF.out.symm, HW2.out⟩
              · have e_h3 : (n.f3.toList == []) = false := by simpa using h3
                obtain ⟨q, hq⟩ : ∃ q, q = joinPathB ⟨#[47]⟩ n.f3 := ⟨_, rfl⟩
                have HJ2 := Lib.hid (fun (w1 : World) (h : Below w.heap.size w w1) => HJ.out w1 h)
                rw [← hq] at HJ2
                obtain ⟨qa, qn⟩ := q
                have hqn : (joinPathB ⟨#[47]⟩ n.f3).2 = qn := by rw [← hq]
                clear hq
                by_cases h4 : qn = 0
                · have HF := Lib.hid (show fitsB n = 0 by unfold fitsB; simp only [HC.out]; simp [*])
                  go_enter Tryd.func21, Tryd.ntmps21
                  go_wp2_with (first
                    | ((with_reducible refine gate_dst (N := 1) rfl ?_); refine box_event ?hg (N := 1) ?hd (cs := #[.string n.f0, .int .i64 n.f1, .slice A2 n.f2.length c2, .string n.f3]) (t := 34) ?hr ?_; (case hd => rfl); (case hg => rfl); (case hr => first | (go_simp; done) | (go_simp; rfl)); intro g hg_ w1 hb_ hw_; have HB1 := Lib.hid hb_; have HW1 := Lib.hid hw_; have c0 := cell_blk hb_ (j := 0) rfl; clear hb_ hw_ hg_)
                    | (go_at_call 35; refine (as_bool HC.out (HIC.out _ HW1.out)).mono ?_; rintro e w2 ⟨rfl, hw2⟩; have HB2 := Lib.hid (blk_below HB1.out hw2); have HW2 := Lib.hid (below_then HW1.out HW1.out.size hw2); clear hw2 c0; have c0 := cell_blk HB2.out (j := 0) rfl; have c1 := cell_blk HB2.out (j := 1) rfl; have c2' := cell_blk HB2.out (j := 2) rfl; have c3 := cell_blk HB2.out (j := 3) rfl)
                    | (go_at_call 36; refine (HJ2.out _ HW2.out).mono ?_; rintro e w3 ⟨rfl, hw3⟩))
                  go_ret
                  exact ⟨ret_int HF.out.symm, below_then HW2.out HW2.out.size hw3⟩
                · have HF := Lib.hid (show fitsB n = 40 by unfold fitsB; simp only [HC.out]; simp [*])
                  go_enter Tryd.func21, Tryd.ntmps21
                  go_wp2_with (first
                    | ((with_reducible refine gate_dst (N := 1) rfl ?_); refine box_event ?hg (N := 1) ?hd (cs := #[.string n.f0, .int .i64 n.f1, .slice A2 n.f2.length c2, .string n.f3]) (t := 34) ?hr ?_; (case hd => rfl); (case hg => rfl); (case hr => first | (go_simp; done) | (go_simp; rfl)); intro g hg_ w1 hb_ hw_; have HB1 := Lib.hid hb_; have HW1 := Lib.hid hw_; have c0 := cell_blk hb_ (j := 0) rfl; clear hb_ hw_ hg_)
                    | (go_at_call 35; refine (as_bool HC.out (HIC.out _ HW1.out)).mono ?_; rintro e w2 ⟨rfl, hw2⟩; have HB2 := Lib.hid (blk_below HB1.out hw2); have HW2 := Lib.hid (below_then HW1.out HW1.out.size hw2); clear hw2 c0; have c0 := cell_blk HB2.out (j := 0) rfl; have c1 := cell_blk HB2.out (j := 1) rfl; have c2' := cell_blk HB2.out (j := 2) rfl; have c3 := cell_blk HB2.out (j := 3) rfl)
                    | (go_at_call 36; refine (HJ2.out _ HW2.out).mono ?_; rintro e w3 ⟨rfl, hw3⟩))
                  go_ret
                  exact ⟨ret_int HF.out.symm, below_then HW2.out HW2.out.size hw3⟩
          · have HF := Lib.hid (show fitsB n = 60 by unfold fitsB; simp only [HC.out]; simp [*])
            go_enter Tryd.func21, Tryd.ntmps21
            go_wp2_with (first
              | ((with_reducible refine gate_dst (N := 1) rfl ?_); refine box_event ?hg (N := 1) ?hd (cs := #[.string n.f0, .int .i64 n.f1, .slice A2 n.f2.length c2, .string n.f3]) (t := 34) ?hr ?_; (case hd => rfl); (case hg => rfl); (case hr => first | (go_simp; done) | (go_simp; rfl)); intro g hg_ w1 hb_ hw_; have HB1 := Lib.hid hb_; have HW1 := Lib.hid hw_; have c0 := cell_blk hb_ (j := 0) rfl; clear hb_ hw_ hg_)
              | (go_at_call 35; refine (as_bool HC.out (HIC.out _ HW1.out)).mono ?_; rintro e w2 ⟨rfl, hw2⟩; have HB2 := Lib.hid (blk_below HB1.out hw2); have HW2 := Lib.hid (below_then HW1.out HW1.out.size hw2); clear hw2 c0; have c0 := cell_blk HB2.out (j := 0) rfl; have c1 := cell_blk HB2.out (j := 1) rfl; have c2' := cell_blk HB2.out (j := 2) rfl; have c3 := cell_blk HB2.out (j := 3) rfl))
            go_ret
            exact ⟨ret_int HF.out.symm, HW2.out⟩

end Go.Proofs.YtlkacodngjdagaaDoor.Vfs
