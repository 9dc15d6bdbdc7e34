/- Links: Through, Link by plain functions; a row that came in, seen from a fixed world (its elements' own rows are not the call's). -/
import Derived.Test.YtdecagihihohkaaDoorPol
import Derived.Test.YtdecagihihohkaaDoorKinds
namespace Go.Proofs.YtdecagihihohkaaDoor.L20
open Go Go.RowKit Go.Proofs.YtdecagihihohkaaDoorW.PrintWords Go.Proofs.YtdecagihihohkaaDoor.Kinds Go.Proofs.YtdecagihihohkaaDoor.Str Go.Proofs.YtdecagihihohkaaDoor.Ev Go.Proofs.YtdecagihihohkaaDoor.Frame
set_option linter.unusedVariables false

def thr (t : S32) (name : ByteArray) : Bool := t.f2 || hasL t.f1 name
def linkOf (dst name : ByteArray) : List S32 → Nat → Int
  | [], _ => -1
  | t :: r, k => if ((t.f0.toList == dst.toList) && thr t name) = true then (k : Int) else linkOf dst name r (k + 1)

theorem ret_int {x y : Int} {k : IntKind} (h : x = y) : Ending.returned (.int k x) = .returned (.int k y) := by rw [h]

theorem below_alloc_then {w wr w1 : World} {o : Obj} (h : Below w.heap.size w wr) (k : Below (wr.alloc o).heap.size (wr.alloc o) w1) : Below w.heap.size w w1 :=
  below_then h h.size (below_then (below_alloc (Below.refl _ _) o) (below_alloc (Below.refl wr.heap.size wr) o).size k)

set_option maxHeartbeats 1000000 in
theorem through_any (t : S32) (C : Array Value) (name : ByteArray) (w : World) (h : k32.K w t C.toList) :
    Calls Tryd.prog 8 #[.agg C, .string name] w fun e w' => e = .returned (.bool (thr t name)) ∧ Below w.heap.size w w' := by
  obtain ⟨A1, c1, e1, l1, g1⟩ := k32_open h
  obtain rfl : C = _ := congrArg List.toArray e1
  have HR := Lib.hid (show ∀ (o : Obj) (n : Nat), Kd.string.C ((w.alloc o).drewN n) A1 t.f1.length t.f1 from fun o n => Kd.C_below g1 (pw_below_drewN (below_alloc (Below.refl _ _) o) n))
  clear h e1 l1 g1
  have hu := Tryd.underlying32
  cases hf : t.f2 with
  | true =>
    have ht := Lib.hid (show thr t name = true by simp [thr, hf])
    go_enter Tryd.func8, Tryd.ntmps8
    go_wp2
    go_ret
    exact ⟨ret_bool ht.out.symm, below_alloc (Below.refl _ _) _⟩
  | false =>
    have ht := Lib.hid (show thr t name = hasL t.f1 name by simp [thr, hf])
    go_enter Tryd.func8, Tryd.ntmps8
    go_wp2_with (go_at_call 15; refine (has_any _ _ _ _ _ (HR.out _ 0)).mono ?_; rintro e w1 ⟨rfl, rfl⟩)
    go_ret
    exact ⟨ret_bool ht.out.symm, below_alloc (Below.refl _ _) _⟩

theorem link_at {w : World} {A : Option Addr} {n : Nat} {xs : List S32} (h : k32.C w A n xs) (k : Nat) (hk : k < n) :
    ∃ t ad A1 c1, A = some ad ∧ xs.drop k = t :: xs.drop (k + 1) ∧ w.cell? (ad.add (k * 3)) = some (.string t.f0) ∧ w.cell? ⟨(ad.add (k * 3)).block, (ad.add (k * 3)).off + 1, none⟩ = some (.slice A1 t.f1.length c1) ∧ w.cell? ⟨(ad.add (k * 3)).block, (ad.add (k * 3)).off + 2, none⟩ = some (.bool t.f2) ∧ t.f1.length ≤ c1 ∧ Kd.string.C w A1 t.f1.length t.f1 := by
  have hl : xs.length = n := h.1
  obtain ⟨ad, A1, c1, rfl, x0, x1, x2, l1, g1⟩ := at_T32 h (k : Int) (by omega) (by omega)
  rw [Int.toNat_natCast] at x0 x1 x2
  exact ⟨_, ad, A1, c1, rfl, drop_at xs k (by omega) _, x0, x1, x2, l1, g1⟩

theorem linkOf_drop (dst name : ByteArray) (t : S32) (r : List S32) (k : Nat) : linkOf dst name (t :: r) k = if ((t.f0.toList == dst.toList) && thr t name) = true then (k : Int) else linkOf dst name r (k + 1) := rfl

set_option maxRecDepth 100000 in
set_option maxHeartbeats 4000000 in
theorem link_any (s : S25) (C : Array Value) (dst name : ByteArray) (w : World) (h : k25.K w s C.toList) :
    Calls Tryd.prog 6 #[.agg C, .string dst, .string name] w fun e w' => e = .returned (.int .i64 (linkOf dst name s.f6 0)) ∧ Below w.heap.size w w' := by
  obtain ⟨A3, c3, A4, c4, A5, c5, A6, c6, e1, l3, g3, l4, g4, l5, g5, l6, g6⟩ := k25_open h
  obtain rfl : C = _ := congrArg List.toArray e1
  have hlen : s.f6.length ≤ 9223372036854775807 := g6.2.1
  have HR := Lib.hid g6
  have HB0 := Lib.hid (show ∀ o : Obj, Below w.heap.size w (w.alloc o) from fun o => below_alloc (Below.refl _ _) o)
  clear h e1 l3 l4 l5 l6 g3 g4 g5 g6
  have hu := Tryd.underlying25
  have hu2 := Tryd.underlying32
  go_enter Tryd.func6, Tryd.ntmps6
  go_wp2
  go_loopw [12] (fun i wr => ∃ k : Nat, k ≤ s.f6.length ∧ i = .int .i64 k ∧ Hid (linkOf dst name s.f6 0 = linkOf dst name (s.f6.drop k) k) ∧ Hid (Below w.heap.size w wr)) (fun i _ => s.f6.length - (intOf i).toNat)
  case atStart => exact ⟨0, Nat.zero_le _, rfl, rfl, HB0.out _⟩
  case round =>
    obtain ⟨k, hk, rfl, hrest, HW⟩ := hrel
    by_cases hlt : k < s.f6.length
    · obtain ⟨t, ad, A1, c1, rfl, hd, x0, x1, x2, m1, g1⟩ := link_at (Kd.C_below HR.out HW.out) k hlt
      have HD := Lib.hid hd
      have KT := Lib.hid (fun W' (hb : Below wr.heap.size wr W') => k32_mk W' t m1 (Kd.C_below g1 hb))
      clear hd m1 g1
      by_cases he : t.f0.toList = dst.toList
      · have he1 : (t.f0.toList == dst.toList) = true := beq_iff_eq.2 he
        clear he
        cases hth : thr t name with
        | true =>
          have HT := Lib.hid hth
          clear hth
          go_wp2_with (go_at_call 8; refine (as_bool HT.out (through_any t _ name _ (KT.out _ (below_alloc (Below.refl _ _) _)))).mono ?_; rintro e w1 ⟨rfl, hw1⟩)
          go_ret
          exact ⟨ret_int (by rw [hrest.out, HD.out, linkOf_drop, he1, HT.out]; rfl), below_alloc_then HW.out hw1⟩
        | false =>
          have HT := Lib.hid hth
          clear hth
          go_wp2_with (go_at_call 8; refine (as_bool HT.out (through_any t _ name _ (KT.out _ (below_alloc (Below.refl _ _) _)))).mono ?_; rintro e w1 ⟨rfl, hw1⟩)
          go_roundw
          case rel => exact ⟨k + 1, by omega, by go_num, by show _ = _; rw [hrest.out, HD.out, linkOf_drop, he1, HT.out]; rfl, below_alloc_then HW.out hw1⟩
          case measure => simp [intOf]; omega
      · have he1 : (t.f0.toList == dst.toList) = false := beq_eq_false_iff_ne.2 he
        clear he
        go_wp2
        go_roundw
        case rel => exact ⟨k + 1, by omega, by go_num, by show _ = _; rw [hrest.out, HD.out, linkOf_drop, he1]; rfl, below_then HW.out HW.out.size (below_alloc (Below.refl _ _) _)⟩
        case measure => simp [intOf]; omega
    · go_wp2
      go_ret
      exact ⟨ret_int (by rw [hrest.out, List.drop_of_length_le (by omega)]; rfl), HW.out⟩

/-! ### the plain law -/
theorem linkOf_ge (dst name : ByteArray) : ∀ (l : List S32) (k : Nat), linkOf dst name l k = -1 ∨ (k : Int) ≤ linkOf dst name l k
  | [], _ => .inl rfl
  | t :: r, k => by
    rw [linkOf_drop]
    split
    · exact .inr (Int.le_refl _)
    · rcases linkOf_ge dst name r (k + 1) with h | h
      · exact .inl h
      · exact .inr (by omega)
theorem linkOf_snoc (dst name : ByteArray) (x : S32) : ∀ (l : List S32) (k : Nat), linkOf dst name (l ++ [x]) k = if 0 ≤ linkOf dst name l k then linkOf dst name l k else if ((x.f0.toList == dst.toList) && thr x name) = true then ((k + l.length : Nat) : Int) else -1
  | [], k => by
    show (if _ then _ else _) = _
    simp [linkOf]
  | t :: r, k => by
    rw [List.cons_append, linkOf_drop, linkOf_drop]
    split
    · rename_i h
      rw [if_pos (by omega)]
    · rw [linkOf_snoc dst name x r (k + 1)]
      simp only [List.length_cons]
      congr 3
      omega

/-! ### a row seen from a fixed world -/
/-- A kind whose elements are known in the world w0, which lies below. -/
def view {α : Type} (d : Kd α) (w0 : World) : Kd α where
  sz := d.sz
  E := []
  K := fun _ x cs => d.K w0 x cs
  M := fun _ _ _ x cs => d.K w0 x cs
  K_len := d.K_len
  K_one := d.K_one
  K_below := fun _ h => h
  K_of_M := fun h => h
  M_mono := fun _ h => h
  M_bound := fun h => h
  M_move := fun _ h => h
  M_lower := fun _ h => h
theorem view_C {α : Type} {d : Kd α} {w0 w : World} {A : Option Addr} {n : Nat} {xs : List α} (h : (view d w0).C w A n xs) (hb : Below w0.heap.size w0 w) : d.C w A n xs :=
  ReadsRow.imp_ h (Below.refl _ _) (fun _ _ hp => d.K_below hb hp)

end Go.Proofs.YtdecagihihohkaaDoor.L20
