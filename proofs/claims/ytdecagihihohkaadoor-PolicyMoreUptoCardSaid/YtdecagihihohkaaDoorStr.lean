/- The path functions and the policy functions over texts: each call returns what a plain function of the texts says; nothing that was there is turned. -/
import Derived.Test.YtdecagihihohkaaDoorFrame
import Derived.Test.YtdecagihihohkaaDoorShelf
import Derived.Lib.Hide
import Derived.BigQuiet
import Derived.Deep.QuietTactic
import Derived.WalkSpells
import Derived.WalkLawsBesides
namespace Go.Proofs.YtdecagihihohkaaDoor.Str
open Go Go.RowKit Go.Proofs.YtdecagihihohkaaDoorW.PrintWords
set_option linter.unusedVariables false

/-- The library's variable MaxLen holds some number. -/
def Mx (w : World) : Prop := ∃ m, w.cell? ⟨0, 0, none⟩ = some (.int .i64 m)
theorem Mx.below {w w' : World} (h : Mx w) (hb : Below w.heap.size w w') : Mx w' := ⟨h.choose, pw_cell_below hb h.choose_spec⟩
theorem Mx.drawn {w w' : World} (h : Mx w) (hb : Drawn0 w w') : Mx w' := h.below hb.below

theorem _root_.Go.Proofs.YtdecagihihohkaaDoorW.PrintWords.Drawn0.trans {a b c : World} (h : Drawn0 a b) (k : Drawn0 b c) : Drawn0 a c := by
  obtain ⟨n, rfl⟩ := k
  exact h.step n

/-! ### path -/
def archA (s : ByteArray) : ByteArray := ⟨(Lib.cut s.data.toList [33, 47]).1.toArray⟩
def archB (s : ByteArray) : ByteArray := ⟨(Lib.cut s.data.toList [33, 47]).2.1.toArray⟩
def archC (s : ByteArray) : Bool := (Lib.cut s.data.toList [33, 47]).2.2
theorem archA_size (s : ByteArray) : (archA s).size ≤ s.size := by
  unfold archA Lib.cut
  split
  · show (List.take _ _).length ≤ s.data.toList.length
    rw [List.length_take]; omega
  · exact Nat.le_refl _
theorem archB_size (s : ByteArray) : (archB s).size ≤ s.size := by
  unfold archB Lib.cut
  split
  · show (List.drop _ _).length ≤ s.data.toList.length
    rw [List.length_drop]; omega
  · exact Nat.zero_le _

theorem archive_any (s : ByteArray) (w : World) (hm : Mx w) (hs : s.size < 4294967281) :
    Calls Tryd.prog 17 #[.string s] w fun e w' => e = .returned (.tuple #[.string (archA s), .string (archB s), .bool (archC s)]) ∧ Drawn0 w w' := by
  obtain ⟨m, hm⟩ := hm
  have HM := Lib.hid hm
  clear hm
  go_enter Tryd.func17, Tryd.ntmps17
  go_wp2_with (go_at_call 22; refine (Tryd.strings_Cut s _ m _ hs HM.out).mono ?_; rintro e w' ⟨rfl, n, rfl⟩)
  go_ret3
  exact ⟨rfl, ⟨⟨_, rfl⟩⟩⟩

def lastB (s : ByteArray) : Int := Lib.lastIndexByte s 47
theorem lastB_bd (s : ByteArray) : -1 ≤ lastB s ∧ lastB s < s.size := by
  rcases Lib.lastIndexByte_spec s 47 with ⟨h, _⟩ | ⟨i, h, hi, _⟩
  · have := h; unfold lastB; omega
  · unfold lastB; omega
def upS (s : ByteArray) : ByteArray := if lastB s ≤ 0 then ⟨#[47]⟩ else s.extract 0 (lastB s).toNat
def baseS (s : ByteArray) : ByteArray := s.extract (lastB s + 1).toNat s.size

theorem up_any (s : ByteArray) (w : World) (hs : s.size < 4611686018427387904) :
    Calls Tryd.prog 23 #[.string s] w fun e w' => e = .returned (.string (upS s)) ∧ w' = w := by
  have hb := lastB_bd s
  have hu : upS s = if lastB s ≤ 0 then ⟨#[47]⟩ else s.extract 0 (lastB s).toNat := rfl
  have HC := Lib.hid (fun w => Tryd.strings_LastIndexByte s 47 hs w)
  have hl : Lib.lastIndexByte s 47 = lastB s := rfl
  rw [hl] at HC
  generalize lastB s = t at *
  have HU := Lib.hid hu
  clear hu hl
  by_cases h0 : t ≤ 0
  · go_enter Tryd.func23, Tryd.ntmps23
    go_wp2_with (go_at_call 21; refine (HC.out _).mono ?_; rintro e w' ⟨rfl, rfl⟩)
    go_ret
    exact ⟨by rw [HU.out, if_pos h0]; rfl, rfl⟩
  · obtain ⟨n, rfl⟩ := Int.eq_ofNat_of_zero_le (show 0 ≤ t by omega)
    go_enter Tryd.func23, Tryd.ntmps23
    go_wp2_with (go_at_call 21; refine (HC.out _).mono ?_; rintro e w' ⟨rfl, rfl⟩)
    go_ret
    exact ⟨by rw [HU.out, if_neg (by omega)]; rfl, rfl⟩

theorem base_any (s : ByteArray) (w : World) (hs : s.size < 4611686018427387904) :
    Calls Tryd.prog 16 #[.string s] w fun e w' => e = .returned (.string (baseS s)) ∧ w' = w := by
  have hb := lastB_bd s
  have hu : baseS s = s.extract (lastB s + 1).toNat s.size := rfl
  have HC := Lib.hid (fun w => Tryd.strings_LastIndexByte s 47 hs w)
  have hl : Lib.lastIndexByte s 47 = lastB s := rfl
  rw [hl] at HC
  generalize lastB s = t at *
  have HU := Lib.hid hu
  clear hu hl
  obtain ⟨n, hn⟩ := Int.eq_ofNat_of_zero_le (show 0 ≤ t + 1 by omega)
  obtain rfl : t = (n : Int) - 1 := by omega
  clear hn
  go_enter Tryd.func16, Tryd.ntmps16
  go_wp2_with (go_at_call 21; refine (HC.out _).mono ?_; rintro e w' ⟨rfl, rfl⟩)
  go_ret
  exact ⟨by rw [HU.out]; first | rfl | simp, rfl⟩


def pChild (p d : ByteArray) : Bool := !p.toList == [47] && !p.toList.isEmpty && (upS p).toList == d.toList
def hasPre (s p : ByteArray) : Bool := Lib.hasPrefix s.data.toList p.data.toList
def slashed (d : ByteArray) : ByteArray := d ++ ⟨#[47]⟩
def pUnder (p d : ByteArray) : Bool := if d.toList = [47] then hasPre p ⟨#[47]⟩ else (p.toList == d.toList || hasPre p (slashed d))

theorem ret_bool {a b : Bool} (h : a = b) : Ending.returned (.bool a) = .returned (.bool b) := by rw [h]

theorem child_any (p d : ByteArray) (w : World) (hs : p.size < 4611686018427387904) :
    Calls Tryd.prog 18 #[.string p, .string d] w fun e w' => e = .returned (.bool (pChild p d)) ∧ Drawn0 w w' := by
  go_enter Tryd.func18, Tryd.ntmps18
  go_wp2_with (go_at_call 23; refine (up_any _ _ hs).mono ?_; rintro e w' ⟨rfl, rfl⟩)
  all_goals go_ret
  all_goals exact ⟨ret_bool (by simp_all [pChild]), Drawn0.refl _⟩

theorem slash_size : (⟨#[47]⟩ : ByteArray).size = 1 := rfl
theorem under_any (p d : ByteArray) (w : World) (hs : p.size < 4611686018427387904) (hd : d.size < 4611686018427387904) :
    Calls Tryd.prog 19 #[.string p, .string d] w fun e w' => e = .returned (.bool (pUnder p d)) ∧ Drawn0 w w' := by
  go_enter Tryd.func19, Tryd.ntmps19
  go_wp2_with (go_at_call 24; refine (Tryd.strings_HasPrefix _ _ _).mono ?_; rintro e w' ⟨rfl, rfl⟩)
  all_goals go_ret
  all_goals exact ⟨ret_bool (by simp_all [pUnder, hasPre, slashed]), Drawn0.refl _⟩

/-! ### policy -/
def rooted (s : ByteArray) : ByteArray := ⟨#[47]⟩ ++ s
def polChild (r d : ByteArray) : Bool :=
  if archC r = archC d then (if archC r = true then ((archA r).toList == (archA d).toList && pChild (rooted (archB r)) (rooted (archB d))) else pChild (archA r) (archA d)) else false
theorem polChild_any (r d : ByteArray) (w : World) (hm : Mx w) (hs : r.size < 4294967281) (hd : d.size < 4294967281) :
    Calls Tryd.prog 12 #[.string r, .string d] w fun e w' => e = .returned (.bool (polChild r d)) ∧ Drawn0 w w' := by
  have h1 := archA_size r
  have h2 := archB_size r
  have h3 := archB_size d
  go_enter Tryd.func12, Tryd.ntmps12
  go_wp2_with fail
  refine (archive_any _ _ hm hs).mono ?_
  rintro e w1 ⟨rfl, hw1⟩
  have HM := Lib.hid (hm.drawn hw1)
  go_wp2_with fail
  refine (archive_any _ _ HM.out hd).mono ?_
  rintro e w2 ⟨rfl, hw2⟩
  go_wp2_with (go_at_call 18; refine (child_any _ _ _ (by first | omega | (have hq := slash_size; simp only [ByteArray.size_append]; omega))).mono ?_; rintro e w3 ⟨rfl, hw3⟩)
  all_goals go_ret
  all_goals refine ⟨ret_bool (by simp_all [polChild, rooted]), ?_⟩
  all_goals first | exact hw1.trans (hw2.trans hw3) | exact hw1.trans hw2

def polUnder (r d : ByteArray) : Bool :=
  if archC d = true then archC r && ((archA r).toList == (archA d).toList && (pUnder (rooted (archB r)) (rooted (archB d)) && (archB r).toList != (archB d).toList))
  else (pUnder (archA r) (archA d) && (archA r).toList != (archA d).toList) || (archC r && (archA r).toList == (archA d).toList)
theorem polUnder_any (r d : ByteArray) (w : World) (hm : Mx w) (hs : r.size < 4294967281) (hd : d.size < 4294967281) :
    Calls Tryd.prog 13 #[.string r, .string d] w fun e w' => e = .returned (.bool (polUnder r d)) ∧ Drawn0 w w' := by
  have h1 := archA_size r
  have h2 := archB_size r
  have h3 := archB_size d
  have h4 := archA_size d
  go_enter Tryd.func13, Tryd.ntmps13
  go_wp2_with fail
  refine (archive_any _ _ hm hs).mono ?_
  rintro e w1 ⟨rfl, hw1⟩
  have HM := Lib.hid (hm.drawn hw1)
  go_wp2_with fail
  refine (archive_any _ _ HM.out hd).mono ?_
  rintro e w2 ⟨rfl, hw2⟩
  go_wp2_with (go_at_call 19; refine (under_any _ _ _ (by first | omega | (have hq := slash_size; simp only [ByteArray.size_append]; omega)) (by first | omega | (have hq := slash_size; simp only [ByteArray.size_append]; omega))).mono ?_; rintro e w3 ⟨rfl, hw3⟩)
  all_goals go_ret
  all_goals refine ⟨ret_bool (by simp_all [polUnder, rooted, bne]), ?_⟩
  all_goals first | exact hw1.trans (hw2.trans hw3) | exact hw1.trans hw2

theorem str_at {w : World} {A : Option Addr} {n : Nat} {xs : List ByteArray} (h : Kd.string.C w A n xs) (i : Nat) (hi : i < n) : ∃ ad, A = some ad ∧ w.cell? (ad.add i) = some (.string (xs.getD i ByteArray.empty)) := by
  obtain ⟨ad, c, e, hl, hK, hc⟩ := ReadsRow.get_ h ByteArray.empty (i : Int) (by omega) (by omega)
  have hK' : c = [.string (xs.getD (i : Int).toNat ByteArray.empty)] := hK
  subst hK'
  have h2 := hc 0 _ rfl
  rw [Int.toNat_natCast] at h2
  have e3 : i * Kd.string.sz + 0 = i := Nat.mul_one i
  rw [e3] at h2
  exact ⟨ad, e, h2⟩
theorem drop_at {α : Type} (l : List α) (k : Nat) (hk : k < l.length) (d : α) : l.drop k = l.getD k d :: l.drop (k + 1) := by
  rw [List.drop_eq_getElem_cons hk, List.getD_eq_getElem?_getD, List.getElem?_eq_getElem hk]; rfl
/-- does a text stand in a list? -/
def hasL : List ByteArray → ByteArray → Bool
  | [], _ => false
  | x :: r, s => x.toList == s.toList || hasL r s
theorem has_any (A : Option Addr) (c : Nat) (l : List ByteArray) (s : ByteArray) (w : World) (hr : Kd.string.C w A l.length l) :
    Calls Tryd.prog 15 #[.slice A l.length c, .string s] w fun e w' => e = .returned (.bool (hasL l s)) ∧ w' = w := by
  have HR := Lib.hid hr
  have hlen : l.length ≤ 9223372036854775807 := hr.2.1
  clear hr
  go_enter Tryd.func15, Tryd.ntmps15
  go_wp2
  go_loop [9] (fun i => ∃ k : Nat, k ≤ l.length ∧ i = .int .i64 k ∧ Hid (hasL l s = hasL (l.drop k) s)) (fun i => l.length - (intOf i).toNat)
  case atStart => exact ⟨0, Nat.zero_le _, rfl, rfl⟩
  case round =>
    obtain ⟨k, hk, rfl, hrest⟩ := hrel
    by_cases hlt : k < l.length
    · obtain ⟨ad, rfl, hcell⟩ := str_at HR.out k hlt
      have hd := Lib.hid (drop_at l k hlt ByteArray.empty)
      obtain ⟨x, hx⟩ : ∃ x, x = l.getD k ByteArray.empty := ⟨_, rfl⟩
      rw [← hx] at hcell hd
      clear hx
      by_cases he : x.toList = s.toList
      · have he1 : (x.toList == s.toList) = true := beq_iff_eq.2 he
        clear he
        go_wp2
        go_ret
        exact ⟨ret_bool (by rw [hrest.out, hd.out]; simp [hasL, he1]), rfl⟩
      · have he1 : (x.toList == s.toList) = false := beq_eq_false_iff_ne.2 he
        clear he
        go_wp2
        go_round
        case rel => exact ⟨k + 1, by omega, by go_num, by show _ = _; rw [hrest.out, hd.out]; simp [hasL, he1]⟩
        case measure => simp [intOf]; omega
    · go_wp2
      go_ret
      exact ⟨ret_bool (by rw [hrest.out, List.drop_of_length_le (by omega)]; rfl), rfl⟩

end Go.Proofs.YtdecagihihohkaaDoor.Str
