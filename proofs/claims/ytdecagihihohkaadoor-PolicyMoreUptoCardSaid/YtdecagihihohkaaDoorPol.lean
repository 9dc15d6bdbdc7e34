/- What a namespace may have: the policy functions over structs. -/
import Derived.Test.YtdecagihihohkaaDoorEv
namespace Go.Proofs.YtdecagihihohkaaDoor.Str
open Go Go.RowKit Go.Proofs.YtdecagihihohkaaDoorW.PrintWords Go.Proofs.YtdecagihihohkaaDoor.Ev
set_option linter.unusedVariables false

theorem quiet_drawn {P : Program} {f : FuncId} {args : Array Value} {w : World} {n : Nat} {v : Value} (h : Calls P f args (w.drewN n) fun e w' => e = .returned v ∧ Drawn0 (w.drewN n) w') :
    Calls P f args (w.drewN n) fun e w'' => e = .returned v ∧ ∃ m, w'' = w.drewN m :=
  Calls.quiet_of (h.mono fun _ _ ⟨he, hd⟩ => ⟨he, hd.out⟩)

theorem as_bool {P : Program} {f : FuncId} {args : Array Value} {w : World} {b b' : Bool} {Q : World → Prop} (h : b = b') (hc : Calls P f args w fun e w' => e = .returned (.bool b) ∧ Q w') : Calls P f args w fun e w' => e = .returned (.bool b') ∧ Q w' := by
  subst h
  exact hc
def polGrey (level greyTo : Int) (grey : List ByteArray) (gdir real : ByteArray) : Bool :=
  decide (level < greyTo) && (!gdir.toList.isEmpty && (hasL grey (baseS real) && polChild real gdir))
set_option maxHeartbeats 1000000 in
theorem polGrey_any (m level : Int) (A : Option Addr) (c : Nat) (l : List ByteArray) (greyTo : Int) (gdir : ByteArray) (pg ins : Int) (real : ByteArray) (w : World) (hm : Mx w) (hr : Kd.string.C w A l.length l) (hs : real.size < 4294967281) (hd : gdir.size < 4294967281) :
    Calls Tryd.prog 10 #[.agg #[.int .u16 m, .int .i64 level, .slice A l.length c, .int .i64 greyTo, .string gdir, .int .i64 pg, .int .i64 ins], .string real] w fun e w' =>
      e = .returned (.bool (polGrey level greyTo l gdir real)) ∧ Below w.heap.size w w' := by
  have HM := Lib.hid (show ∀ (o : Obj) (n : Nat), Mx ((w.alloc o).drewN n) from fun o n => hm.below (pw_below_drewN (below_alloc (Below.refl _ _) o) n))
  have HR := Lib.hid (show ∀ (o : Obj) (n : Nat), Kd.string.C ((w.alloc o).drewN n) A l.length l from fun o n => Kd.C_below hr (pw_below_drewN (below_alloc (Below.refl _ _) o) n))
  clear hm hr
  have hu := Tryd.underlying28
  by_cases h1 : level < greyTo
  · have d1 : decide (level < greyTo) = true := decide_eq_true h1
    by_cases h2 : gdir.toList = []
    · have e2 : gdir.toList.isEmpty = true := by simp [h2]
      go_enter Tryd.func10, Tryd.ntmps10
      go_wp2
      go_quiet (fail)
      go_wp2
      go_ret
      exact ⟨ret_bool (by simp [polGrey, h1, h2]), pw_below_drewN (below_alloc (Below.refl _ _) _) _⟩
    · have e2 : gdir.toList.isEmpty = false := by simp [h2]
      have e3 : (gdir.toList != []) = true := by simp [h2]
      by_cases h3 : hasL l (baseS real) = true
      · go_enter Tryd.func10, Tryd.ntmps10
        go_wp2
        go_quiet (first
          | (go_at_call 16; exact Calls.quiet_of_same (base_any _ _ (by omega)))
          | (go_at_call 15; exact Calls.quiet_of_same (has_any _ _ _ _ _ (HR.out _ _)))
          | (go_at_call 12; exact quiet_drawn (polChild_any _ _ _ (HM.out _ _) hs hd)))
        go_wp2
        go_ret
        exact ⟨ret_bool (by simp [polGrey, h1, e2, h3]), pw_below_drewN (below_alloc (Below.refl _ _) _) _⟩
      · have h3' : hasL l (baseS real) = false := by simpa using h3
        go_enter Tryd.func10, Tryd.ntmps10
        go_wp2
        go_quiet (first
          | (go_at_call 16; exact Calls.quiet_of_same (base_any _ _ (by omega)))
          | (go_at_call 15; exact Calls.quiet_of_same (has_any _ _ _ _ _ (HR.out _ _)))
          | (go_at_call 12; exact quiet_drawn (polChild_any _ _ _ (HM.out _ _) hs hd)))
        go_wp2
        go_ret
        exact ⟨ret_bool (by simp [polGrey, h1, e2, h3']), pw_below_drewN (below_alloc (Below.refl _ _) _) _⟩
  · have d1 : decide (level < greyTo) = false := decide_eq_false h1
    go_enter Tryd.func10, Tryd.ntmps10
    go_wp2
    go_quiet (fail)
    go_wp2
    go_ret
    exact ⟨ret_bool (by simp only [polGrey, d1]; rfl), pw_below_drewN (below_alloc (Below.refl _ _) _) _⟩

theorem two_one (w : World) (o1 o2 : Obj) : ((w.alloc o1).alloc o2).heap[w.heap.size]? = some o1 := by
  show ((w.heap.push o1).push o2)[w.heap.size]? = some o1
  rw [Array.getElem?_push, if_neg (by simp), Array.getElem?_push, if_pos rfl]
theorem two_two (w : World) (o1 o2 : Obj) : ((w.alloc o1).alloc o2).heap[w.heap.size + 1]? = some o2 := by
  show ((w.heap.push o1).push o2)[w.heap.size + 1]? = some o2
  rw [Array.getElem?_push, if_pos (by simp)]
def anyL (f : ByteArray → Bool) : List ByteArray → Bool
  | [] => false
  | x :: r => f x || anyL f r
theorem anyL_mem {f : ByteArray → Bool} {l : List ByteArray} : anyL f l = true ↔ ∃ x ∈ l, f x = true := by
  induction l with
  | nil => simp [anyL]
  | cons x r ih => simp [anyL, ih]
theorem getD_mem {α : Type} {l : List α} {k : Nat} (hk : k < l.length) (d : α) : l.getD k d ∈ l := by
  rw [List.getD_eq_getElem?_getD, List.getElem?_eq_getElem hk]
  exact List.getElem_mem hk

def polAcc (iso : Bool) (search perm : List ByteArray) (first : Bool) (grey : Bool) (real : ByteArray) : Bool :=
  !iso || (anyL (polChild real) search || (anyL (polUnder real) perm || (first && grey)))

set_option maxRecDepth 100000 in
set_option maxHeartbeats 2000000 in
theorem polAcc_any (nm : ByteArray) (iso vis : Bool) (A3 : Option Addr) (c3 : Nat) (l3 : List ByteArray) (A4 : Option Addr) (c4 : Nat) (l4 : List ByteArray) (v5 v6 : Value) (m level : Int) (A : Option Addr) (c : Nat) (l : List ByteArray) (greyTo : Int) (gdir : ByteArray) (pg ins : Int) (first : Bool) (real : ByteArray) (w : World) (hm : Mx w)
    (hr3 : Kd.string.C w A3 l3.length l3) (hr4 : Kd.string.C w A4 l4.length l4) (hr : Kd.string.C w A l.length l) (hs : real.size < 4294967281) (hd : gdir.size < 4294967281) (hz3 : ∀ x ∈ l3, x.size < 4294967281) (hz4 : ∀ x ∈ l4, x.size < 4294967281) :
    Calls Tryd.prog 9 #[.agg #[.string nm, .bool iso, .bool vis, .slice A3 l3.length c3, .slice A4 l4.length c4, v5, v6], .agg #[.int .u16 m, .int .i64 level, .slice A l.length c, .int .i64 greyTo, .string gdir, .int .i64 pg, .int .i64 ins], .bool first, .string real] w fun e w' =>
      e = .returned (.bool (polAcc iso l3 l4 first (polGrey level greyTo l gdir real) real)) ∧ Below w.heap.size w w' := by
  have hl3 : l3.length ≤ 9223372036854775807 := hr3.2.1
  have hl4 : l4.length ≤ 9223372036854775807 := hr4.2.1
  have HB := Lib.hid (show ∀ (o1 o2 : Obj) (n : Nat), Below w.heap.size w (((w.alloc o1).alloc o2).drewN n) from fun o1 o2 n => pw_below_drewN (below_alloc (below_alloc (Below.refl _ _) o1) o2) n)
  have HM := Lib.hid hm
  have HR := Lib.hid hr
  have HR3 := Lib.hid hr3
  have HR4 := Lib.hid hr4
  have HZ3 := Lib.hid hz3
  have HZ4 := Lib.hid hz4
  have HS := Lib.hid hs
  have HD := Lib.hid hd
  clear hm hr hr3 hr4 hz3 hz4 hs hd
  have hu := Tryd.underlying28
  have hu2 := Tryd.underlying25
  cases iso with
  | false =>
    go_enter Tryd.func9, Tryd.ntmps9
    go_wp2
    go_ret
    exact ⟨ret_bool (by simp [polAcc]), HB.out _ _ 0⟩
  | true =>
    go_enter Tryd.func9, Tryd.ntmps9
    go_wp2
    go_loopw [19] (fun i wr => ∃ k : Nat, k ≤ l3.length ∧ i = .int .i64 k ∧ Hid (anyL (polChild real) l3 = anyL (polChild real) (l3.drop k)) ∧ Hid (Below w.heap.size w wr) ∧ Hid (wr.heap[w.heap.size]? = some (.cells #[.string nm, .bool true, .bool vis, .slice A3 l3.length c3, .slice A4 l4.length c4, v5, v6] 25 (0, 0))) ∧ Hid (wr.heap[w.heap.size + 1]? = some (.cells #[.int .u16 m, .int .i64 level, .slice A l.length c, .int .i64 greyTo, .string gdir, .int .i64 pg, .int .i64 ins] 28 (0, 0)))) (fun i _ => l3.length - (intOf i).toNat)
    case atStart => exact ⟨0, Nat.zero_le _, rfl, rfl, HB.out _ _ 0, two_one _ _ _, two_two _ _ _⟩
    case round =>
      obtain ⟨k, hk, rfl, hrest, HW, HO1, HO2⟩ := hrel
      by_cases hlt : k < l3.length
      · obtain ⟨ad, rfl, hcell⟩ := str_at (Kd.C_below HR3.out HW.out) k hlt
        have hd3 := Lib.hid (drop_at l3 k hlt ByteArray.empty)
        have hx := HZ3.out _ (getD_mem hlt ByteArray.empty)
        generalize l3.getD k ByteArray.empty = x at hcell hd3 hx
        have HX := Lib.hid hx
        clear hx
        cases hb : polChild real x with
        | true =>
          have hb' := Lib.hid hb
          clear hb
          go_wp2_with (go_at_call 12; refine (as_bool hb'.out (polChild_any _ _ _ (HM.out.below HW.out) HS.out HX.out)).mono ?_; rintro e w' ⟨rfl, ⟨n, rfl⟩⟩)
          go_ret
          exact ⟨ret_bool (by unfold polAcc; rw [hrest.out, hd3.out]; simp [anyL, hb'.out]), pw_below_drewN HW.out _⟩
        | false =>
          have hb' := Lib.hid hb
          clear hb
          go_wp2_with (go_at_call 12; refine (as_bool hb'.out (polChild_any _ _ _ (HM.out.below HW.out) HS.out HX.out)).mono ?_; rintro e w' ⟨rfl, ⟨n, rfl⟩⟩)
          go_roundw
          case rel => exact ⟨k + 1, by omega, by go_num, by show _ = _; rw [hrest.out, hd3.out]; simp [anyL, hb'.out], pw_below_drewN HW.out _, blk_drewN HO1.out _, blk_drewN HO2.out _⟩
          case measure => simp [intOf]; omega
      · have HN := Lib.hid (show anyL (polChild real) l3 = false by rw [hrest.out, List.drop_of_length_le (by omega)]; rfl)
        clear hrest
        have c4 := cell_blk HO1.out (j := 4) rfl
        go_wp2
        clear c4
        go_loopw [30] (fun i wr => ∃ k : Nat, k ≤ l4.length ∧ i = .int .i64 k ∧ Hid (anyL (polUnder real) l4 = anyL (polUnder real) (l4.drop k)) ∧ Hid (Below w.heap.size w wr) ∧ Hid (wr.heap[w.heap.size + 1]? = some (.cells #[.int .u16 m, .int .i64 level, .slice A l.length c, .int .i64 greyTo, .string gdir, .int .i64 pg, .int .i64 ins] 28 (0, 0)))) (fun i _ => l4.length - (intOf i).toNat)
        case atStart => exact ⟨0, Nat.zero_le _, rfl, rfl, HW.out, HO2.out⟩
        case round =>
          clear HW HO1 HO2 hlt hk
          obtain ⟨k, hk, rfl, hrest, HW, HO2⟩ := hrel
          by_cases hlt : k < l4.length
          · obtain ⟨ad, rfl, hcell⟩ := str_at (Kd.C_below HR4.out HW.out) k hlt
            have hd3 := Lib.hid (drop_at l4 k hlt ByteArray.empty)
            have hx := HZ4.out _ (getD_mem hlt ByteArray.empty)
            generalize l4.getD k ByteArray.empty = x at hcell hd3 hx
            have HX := Lib.hid hx
            clear hx
            cases hb : polUnder real x with
            | true =>
              have hb' := Lib.hid hb
              clear hb
              go_wp2_with (go_at_call 13; refine (as_bool hb'.out (polUnder_any _ _ _ (HM.out.below HW.out) HS.out HX.out)).mono ?_; rintro e w' ⟨rfl, ⟨n, rfl⟩⟩)
              go_ret
              exact ⟨ret_bool (by unfold polAcc; rw [hrest.out, hd3.out]; simp [anyL, hb'.out]), pw_below_drewN HW.out _⟩
            | false =>
              have hb' := Lib.hid hb
              clear hb
              go_wp2_with (go_at_call 13; refine (as_bool hb'.out (polUnder_any _ _ _ (HM.out.below HW.out) HS.out HX.out)).mono ?_; rintro e w' ⟨rfl, ⟨n, rfl⟩⟩)
              go_roundw
              case rel => exact ⟨k + 1, by omega, by go_num, by show _ = _; rw [hrest.out, hd3.out]; simp [anyL, hb'.out], pw_below_drewN HW.out _, blk_drewN HO2.out _⟩
              case measure => simp [intOf]; omega
          · have HN2 := Lib.hid (show anyL (polUnder real) l4 = false by rw [hrest.out, List.drop_of_length_le (by omega)]; rfl)
            clear hrest
            have c0 := cell_blk HO2.out (j := 0) rfl
            have c1 := cell_blk HO2.out (j := 1) rfl
            have c2 := cell_blk HO2.out (j := 2) rfl
            have c3 := cell_blk HO2.out (j := 3) rfl
            have c4 := cell_blk HO2.out (j := 4) rfl
            have c5 := cell_blk HO2.out (j := 5) rfl
            have c6 := cell_blk HO2.out (j := 6) rfl
            cases first with
            | false =>
              go_wp2
              go_ret
              exact ⟨ret_bool (by unfold polAcc; rw [HN.out, HN2.out]; rfl), HW.out⟩
            | true =>
              go_wp2_with (go_at_call 10; refine (polGrey_any _ _ _ _ _ _ _ _ _ _ _ (HM.out.below HW.out) (Kd.C_below HR.out HW.out) HS.out HD.out).mono ?_; rintro e w' ⟨rfl, hw'⟩)
              go_ret
              exact ⟨ret_bool (by unfold polAcc; rw [HN.out, HN2.out]; rfl), below_then HW.out HW.out.size hw'⟩

end Go.Proofs.YtdecagihihohkaaDoor.Str
