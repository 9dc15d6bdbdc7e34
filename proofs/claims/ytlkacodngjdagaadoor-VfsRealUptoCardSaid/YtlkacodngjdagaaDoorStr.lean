/- The path functions and the policy functions over texts: each call returns what a plain function of the texts says; nothing that was there is turned. -/
import Derived.Test.YtlkacodngjdagaaDoorFrame
import Derived.Test.YtlkacodngjdagaaDoorShelf
import Derived.Lib.Hide
import Derived.BigQuiet
import Derived.Deep.QuietTactic
import Derived.WalkSpells
import Derived.WalkLawsBesides
namespace Go.Proofs.YtlkacodngjdagaaDoor.Str
open Go Go.RowKit Go.Proofs.YtlkacodngjdagaaDoorW.PrintWords
set_option linter.unusedVariables false

/-- The library's variable MaxLen holds some number. -/
def Mx (w : World) : Prop := ∃ m, w.cell? ⟨0, 0, none⟩ = some (.int .i64 m)
theorem Mx.below {w w' : World} (h : Mx w) (hb : Below w.heap.size w w') : Mx w' := ⟨h.choose, pw_cell_below hb h.choose_spec⟩
theorem Mx.drawn {w w' : World} (h : Mx w) (hb : Drawn0 w w') : Mx w' := h.below hb.below

theorem _root_.Go.Proofs.YtlkacodngjdagaaDoorW.PrintWords.Drawn0.trans {a b c : World} (h : Drawn0 a b) (k : Drawn0 b c) : Drawn0 a c := by
  obtain ⟨n, rfl⟩ := k
  exact h.step n

/-! ### path -/
def lastB (s : ByteArray) : Int := Lib.lastIndexByte s 47
theorem lastB_bd (s : ByteArray) : -1 ≤ lastB s ∧ lastB s < s.size := by
  rcases Lib.lastIndexByte_spec s 47 with ⟨h, _⟩ | ⟨i, h, hi, _⟩
  · have := h; unfold lastB; omega
  · unfold lastB; omega
def upS (s : ByteArray) : ByteArray := if lastB s ≤ 0 then ⟨#[47]⟩ else s.extract 0 (lastB s).toNat
def baseS (s : ByteArray) : ByteArray := s.extract (lastB s + 1).toNat s.size

theorem up_any (s : ByteArray) (w : World) (hs : s.size < 4611686018427387904) :
    Calls Tryd.prog 22 #[.string s] w fun e w' => e = .returned (.string (upS s)) ∧ w' = w := by
  have hb := lastB_bd s
  have hu : upS s = if lastB s ≤ 0 then ⟨#[47]⟩ else s.extract 0 (lastB s).toNat := rfl
  have HC := Lib.hid (fun w => Tryd.strings_LastIndexByte s 47 hs w)
  have hl : Lib.lastIndexByte s 47 = lastB s := rfl
  rw [hl] at HC
  generalize lastB s = t at *
  have HU := Lib.hid hu
  clear hu hl
  by_cases h0 : t ≤ 0
  · go_enter Tryd.func22, Tryd.ntmps22
    go_wp2_with (go_at_call 37; refine (HC.out _).mono ?_; rintro e w' ⟨rfl, rfl⟩)
    go_ret
    exact ⟨by rw [HU.out, if_pos h0]; rfl, rfl⟩
  · obtain ⟨n, rfl⟩ := Int.eq_ofNat_of_zero_le (show 0 ≤ t by omega)
    go_enter Tryd.func22, Tryd.ntmps22
    go_wp2_with (go_at_call 37; refine (HC.out _).mono ?_; rintro e w' ⟨rfl, rfl⟩)
    go_ret
    exact ⟨by rw [HU.out, if_neg (by omega)]; rfl, rfl⟩

theorem base_any (s : ByteArray) (w : World) (hs : s.size < 4611686018427387904) :
    Calls Tryd.prog 32 #[.string s] w fun e w' => e = .returned (.string (baseS s)) ∧ w' = w := by
  have hb := lastB_bd s
  have hu : baseS s = s.extract (lastB s + 1).toNat s.size := rfl
  have HC := Lib.hid (fun w => Tryd.strings_LastIndexByte s 47 hs w)
  have hl : Lib.lastIndexByte s 47 = lastB s := rfl
  rw [hl] at HC
  generalize lastB s = t at *
  have HU := Lib.hid hu
  clear hu hl
  obtain ⟨n, hn⟩ := Int.eq_ofNat_of_zero_le (show 0 ≤ t + 1 by omega)
  obtain rfl : t = (n : Int) - 1 := by omega
  clear hn
  go_enter Tryd.func32, Tryd.ntmps32
  go_wp2_with (go_at_call 37; refine (HC.out _).mono ?_; rintro e w' ⟨rfl, rfl⟩)
  go_ret
  exact ⟨by rw [HU.out]; first | rfl | simp, rfl⟩


theorem ret_bool {a b : Bool} (h : a = b) : Ending.returned (.bool a) = .returned (.bool b) := by rw [h]

theorem str_at {w : World} {A : Option Addr} {n : Nat} {xs : List ByteArray} (h : Kd.string.C w A n xs) (i : Nat) (hi : i < n) : ∃ ad, A = some ad ∧ w.cell? (ad.add i) = some (.string (xs.getD i ByteArray.empty)) := by
  obtain ⟨ad, c, e, hl, hK, hc⟩ := ReadsRow.get_ h ByteArray.empty (i : Int) (by omega) (by omega)
  have hK' : c = [.string (xs.getD (i : Int).toNat ByteArray.empty)] := hK
  subst hK'
  have h2 := hc 0 _ rfl
  rw [Int.toNat_natCast] at h2
  have e3 : i * Kd.string.sz + 0 = i := Nat.mul_one i
  rw [e3] at h2
  exact ⟨ad, e, h2⟩
theorem drop_at {α : Type} (l : List α) (k : Nat) (hk : k < l.length) (d : α) : l.drop k = l.getD k d :: l.drop (k + 1) := by
  rw [List.drop_eq_getElem_cons hk, List.getD_eq_getElem?_getD, List.getElem?_eq_getElem hk]; rfl
theorem as_bool {P : Program} {f : FuncId} {args : Array Value} {w : World} {b b' : Bool} {Q : World → Prop} (h : b = b') (hc : Calls P f args w fun e w' => e = .returned (.bool b) ∧ Q w') : Calls P f args w fun e w' => e = .returned (.bool b') ∧ Q w' := by
  subst h
  exact hc
def hasPre (s p : ByteArray) : Bool := Lib.hasPrefix s.data.toList p.data.toList

end Go.Proofs.YtlkacodngjdagaaDoor.Str
