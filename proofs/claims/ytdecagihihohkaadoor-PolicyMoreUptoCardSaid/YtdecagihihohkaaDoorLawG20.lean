/- Layer 20: what is asked for too much; the chapter's examples. -/
import Derived.Test.YtdecagihihohkaaDoorPol
import Derived.Test.YtdecagihihohkaaDoorKinds
namespace Go.Proofs.YtdecagihihohkaaDoor.L20
open Go Go.RowKit Go.Proofs.YtdecagihihohkaaDoorW.PrintWords Go.Proofs.YtdecagihihohkaaDoor.Kinds Go.Proofs.YtdecagihihohkaaDoor.Str Go.Proofs.YtdecagihihohkaaDoor.Ev Go.Proofs.YtdecagihihohkaaDoor.Frame
set_option linter.unusedVariables false

def SomeBool (w : World) (e : Ending) (w' : World) : Prop := ∃ b, e = .returned (.bool b) ∧ w' = w

def SomeBoolB (w : World) (e : Ending) (w' : World) : Prop := ∃ b, e = .returned (.bool b) ∧ Below w.heap.size w w'

set_option maxRecDepth 100000 in
set_option maxHeartbeats 2000000 in
theorem great19_any (A : Option Addr) (c : Nat) (l : List S25) (w : World) (hr : k25.C w A l.length l) :
    Calls Tryd.prog 11 #[.slice A l.length c] w (SomeBool w) := by
  have hlen : l.length ≤ 9223372036854775807 := hr.2.1
  have HR := Lib.hid hr
  clear hr
  have hu := Tryd.underlying25
  have hu2 := Tryd.underlying32
  go_enter Tryd.func11, Tryd.ntmps11
  go_wp2
  · go_ret
    exact ⟨_, rfl, rfl⟩
  · go_loop [3] (fun i => ∃ k : Nat, k ≤ l.length ∧ i = .int .i64 k) (fun i => l.length - (intOf i).toNat)
    case atStart => exact ⟨0, Nat.zero_le _, rfl⟩
    case round =>
      obtain ⟨k, hk, rfl⟩ := hrel
      by_cases hlt : k < l.length
      · obtain ⟨ad, A3, c3, A4, c4, A5, c5, A6, c6, rfl, x0, x1, x2, x3, x4, x5, x6, l3, g3, l4, g4, l5, g5, l6, g6⟩ := at_T25 HR.out (k : Int) (by omega) (by omega)
        rw [Int.toNat_natCast] at x0 x1 x2 x3 x4 x5 x6
        generalize rd_T25 l (k : Int) = s at *
        have H6 := Lib.hid g6
        clear l3 l4 l5 l6 g3 g4 g5 g6
        go_wp2
        all_goals first | (go_ret; exact ⟨_, rfl, rfl⟩) | skip
        go_loop [4] (fun i => ∃ q : Nat, q ≤ s.f6.length ∧ i = .int .i64 q) (fun i => s.f6.length - (intOf i).toNat)
        case atStart => exact ⟨0, Nat.zero_le _, rfl⟩
        case round =>
          obtain ⟨q, hq, rfl⟩ := hrel
          have hl6 : s.f6.length ≤ 9223372036854775807 := H6.out.2.1
          by_cases hql : q < s.f6.length
          · obtain ⟨ad6, B1, d1, rfl, y0, y1, y2, m1, g1⟩ := at_T32 H6.out (q : Int) (by omega) (by omega)
            rw [Int.toNat_natCast] at y0 y1 y2
            generalize rd_T32 s.f6 (q : Int) = t at *
            clear g1 m1
            go_wp2
            · go_ret
              exact ⟨_, rfl, rfl⟩
            · go_round
              case rel => exact ⟨q + 1, by omega, by go_num⟩
              case measure => simp [intOf]; omega
          · go_wp2
            go_round
            case rel => exact ⟨k + 1, by omega, by go_num⟩
            case measure => simp [intOf]; omega
      · go_wp2
        go_ret
        exact ⟨_, rfl, rfl⟩

theorem below2 (w : World) (o1 o2 : Obj) : Below w.heap.size w ((w.alloc o1).alloc o2) := below_alloc (below_alloc (Below.refl _ _) o1) o2
theorem great19_one (s : S25) (g : Nat) (w : World) (hr : k25.C w (some ⟨g, 0, none⟩) 1 [s]) :
    Calls Tryd.prog 11 #[.slice (some ⟨g, 0, none⟩) 1 1] w (SomeBool w) := great19_any (some ⟨g, 0, none⟩) 1 [s] w hr
theorem row_one {α : Type} (d : Kd α) {w : World} {g : Nat} {x : α} {cs : List Value} {t : TypeId} {fr : Nat × Nat} (h : d.K w x cs) (hb : w.heap[g]? = some (.cells cs.toArray t fr)) : d.C w (some ⟨g, 0, none⟩) 1 [x] := by
  refine ⟨rfl, by decide, fun _ => ⟨_, rfl, fun j p hj => ?_⟩⟩
  match j, hj with
  | 0, hj =>
    obtain rfl : x = p := by simpa using hj
    refine ⟨cs, d.K_len h, h, fun i u hu => ?_⟩
    rw [Nat.zero_mul, Nat.zero_add, add_plain]
    exact cell_blk hb (by simpa using hu)
set_option maxRecDepth 100000 in
set_option maxHeartbeats 2000000 in
theorem great20_any (a : S30) (cs : List Value) (w : World) (hr : k30.K w a cs) :
    Calls Tryd.prog 5 #[.agg cs.toArray] w (SomeBoolB w) := by
  obtain ⟨A3, c3, A4, c4, A5, c5, A6, c6, A9, c9, rfl, l3, g3, l4, g4, l5, g5, l6, g6, l9, g9⟩ := k30_open hr
  have hu := Tryd.underlying25
  have hu2 := Tryd.underlying28
  have hu3 := Tryd.underlying30
  go_enter Tryd.func5, Tryd.ntmps5
  go_wp2_with fail
  refine (great19_one a.f0 _ _ ?_).mono ?_
  · exact row_one k25 (k25_mk _ a.f0 l3 (Kd.C_below g3 (below2 _ _ _)) l4 (Kd.C_below g4 (below2 _ _ _)) l5 (Kd.C_below g5 (below2 _ _ _)) l6 (Kd.C_below g6 (below2 _ _ _))) (two_two _ _ _)
  rintro e w1 ⟨b, rfl, rfl⟩
  go_wp2
  all_goals go_ret
  all_goals exact ⟨_, rfl, below2 _ _ _⟩

/-- The chapter's examples. -/
theorem alive20 (w : World) (hm : Mx w) : Calls Tryd.prog 7 #[] w fun e w' => e = .returned (.bool true) ∧ Below w.heap.size w w' := by
  obtain ⟨m, hm⟩ := hm
  have HM := Lib.hid (show Mx w from ⟨m, hm⟩)
  clear hm
  have hu := Tryd.underlying28
  have e1 : polChild ⟨#[47, 108, 105, 98, 47, 97, 46, 115, 111]⟩ ⟨#[47, 108, 105, 98]⟩ = true := by decide +kernel
  have e2 : polChild ⟨#[47, 108, 105, 98, 47, 120, 47, 97, 46, 115, 111]⟩ ⟨#[47, 108, 105, 98]⟩ = false := by decide +kernel
  have e3 : polUnder ⟨#[47, 108, 105, 98, 47, 120, 47, 97, 46, 115, 111]⟩ ⟨#[47, 108, 105, 98]⟩ = true := by decide +kernel
  have e4 : polUnder ⟨#[47, 97, 46, 97, 112, 107, 33, 47, 108, 105, 98, 47, 120, 46, 115, 111]⟩ ⟨#[47]⟩ = true := by decide +kernel
  have e5 : polChild ⟨#[47, 97, 46, 97, 112, 107, 33, 47, 108, 105, 98, 47, 120, 46, 115, 111]⟩ ⟨#[47, 97, 46, 97, 112, 107, 33, 47, 108, 105, 98]⟩ = true := by decide +kernel
  have E1 := Lib.hid e1
  have E2 := Lib.hid e2
  have E3 := Lib.hid e3
  have E4 := Lib.hid e4
  have E5 := Lib.hid e5
  clear e1 e2 e3 e4 e5
  go_enter Tryd.func7, Tryd.ntmps7
  go_wp2_with fail
  refine (as_bool E1.out (polChild_any _ _ _ HM.out (by decide) (by decide))).mono ?_
  rintro e w1 ⟨rfl, h1⟩
  have M1 := Lib.hid (HM.out.drawn h1)
  go_wp2_with fail
  refine (as_bool E2.out (polChild_any _ _ _ M1.out (by decide) (by decide))).mono ?_
  rintro e w2 ⟨rfl, h2⟩
  have M2 := Lib.hid (M1.out.drawn h2)
  go_wp2_with fail
  refine (as_bool E3.out (polUnder_any _ _ _ M2.out (by decide) (by decide))).mono ?_
  rintro e w3 ⟨rfl, h3⟩
  have M3 := Lib.hid (M2.out.drawn h3)
  go_wp2_with fail
  refine (as_bool E4.out (polUnder_any _ _ _ M3.out (by decide) (by decide))).mono ?_
  rintro e w4 ⟨rfl, h4⟩
  have M4 := Lib.hid (M3.out.drawn h4)
  go_wp2_with fail
  refine (as_bool E5.out (polChild_any _ _ _ M4.out (by decide) (by decide))).mono ?_
  rintro e w5 ⟨rfl, h5⟩
  go_wp2
  go_ret
  exact ⟨rfl, by repeat (first | exact (h1.trans (h2.trans (h3.trans (h4.trans h5)))).below | refine below_alloc ?_ _)⟩


theorem acc_K (s : S25) (t : S28) (sp st : Array Value) (first : Bool) (real : ByteArray) (w : World) (hm : Mx w) (hsp : k25.K w s sp.toList) (hst : k28.K w t st.toList)
    (hs : real.size < 4294967281) (hd : t.f4.size < 4294967281) (hz3 : ∀ x ∈ s.f3, x.size < 4294967281) (hz4 : ∀ x ∈ s.f4, x.size < 4294967281) :
    Calls Tryd.prog 9 #[.agg sp, .agg st, .bool first, .string real] w fun e w' =>
      e = .returned (.bool (polAcc s.f1 s.f3 s.f4 first (polGrey t.f1 t.f3 t.f2 t.f4 real) real)) ∧ Below w.heap.size w w' := by
  obtain ⟨A3, c3, A4, c4, A5, c5, A6, c6, e1, l3, g3, l4, g4, l5, g5, l6, g6⟩ := k25_open hsp
  obtain ⟨A2, c2, e2, l2, g2⟩ := k28_open hst
  obtain rfl : sp = _ := congrArg List.toArray e1
  obtain rfl : st = _ := congrArg List.toArray e2
  exact polAcc_any _ _ _ _ _ _ _ _ _ _ _ _ _ _ _ _ _ _ _ _ _ _ _ hm g3 g4 g2 hs hd hz3 hz4
theorem grey_K (t : S28) (st : Array Value) (real : ByteArray) (w : World) (hm : Mx w) (hst : k28.K w t st.toList) (hs : real.size < 4294967281) (hd : t.f4.size < 4294967281) :
    Calls Tryd.prog 10 #[.agg st, .string real] w fun e w' => e = .returned (.bool (polGrey t.f1 t.f3 t.f2 t.f4 real)) ∧ Below w.heap.size w w' := by
  obtain ⟨A2, c2, e2, l2, g2⟩ := k28_open hst
  obtain rfl : st = _ := congrArg List.toArray e2
  exact polGrey_any _ _ _ _ _ _ _ _ _ _ _ hm g2 hs hd
theorem great_K (a : S30) (C : Array Value) (w : World) (hr : k30.K w a C.toList) :
    Calls Tryd.prog 5 #[.agg C] w (SomeBoolB w) := great20_any a C.toList w hr

/-- A folder more takes nothing away. -/
theorem acc_more_perm {iso : Bool} {l3 l4 : List ByteArray} {first grey : Bool} {real d : ByteArray} (h : polAcc iso l3 l4 first grey real = true) : polAcc iso l3 ([d] ++ l4) first grey real = true := by
  simp only [polAcc, List.cons_append, List.nil_append, anyL, Bool.or_eq_true] at h ⊢
  rcases h with h | h | h | h
  · exact .inl h
  · exact .inr (.inl h)
  · exact .inr (.inr (.inl (.inr h)))
  · exact .inr (.inr (.inr h))
theorem acc_more_search {iso : Bool} {l3 l4 : List ByteArray} {first grey : Bool} {real d : ByteArray} (h : polAcc iso l3 l4 first grey real = true) : polAcc iso ([d] ++ l3) l4 first grey real = true := by
  simp only [polAcc, List.cons_append, List.nil_append, anyL, Bool.or_eq_true] at h ⊢
  rcases h with h | h | h | h
  · exact .inl h
  · exact .inr (.inl (.inr h))
  · exact .inr (.inr (.inl h))
  · exact .inr (.inr (.inr h))
theorem acc_iso {iso : Bool} {l3 l4 : List ByteArray} {first grey : Bool} {real : ByteArray} (h : polAcc iso l3 l4 first grey real = false) : iso = true := by
  cases iso
  · simp [polAcc] at h
  · rfl
theorem acc_bare (first grey : Bool) (real : ByteArray) : polAcc true [] [] first grey real = (first && grey) := by simp [polAcc, anyL]

end Go.Proofs.YtdecagihihohkaaDoor.L20
