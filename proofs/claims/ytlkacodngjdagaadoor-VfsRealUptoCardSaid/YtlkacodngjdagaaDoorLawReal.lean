/- The statement VfsReal: where a path leads has a path of its own, which leads there. -/
import Derived.Test.YtlkacodngjdagaaDoorReal
namespace Go.Proofs.YtlkacodngjdagaaDoor.Vfs
open Go Go.Maps Go.WideMaps Go.RowKit Go.Proofs.YtlkacodngjdagaaDoorW.PrintWords Go.Proofs.YtlkacodngjdagaaDoor.Kinds Go.Proofs.YtlkacodngjdagaaDoor.Str Go.Proofs.YtlkacodngjdagaaDoor.Ev Go.Proofs.YtlkacodngjdagaaDoor.Frame
set_option linter.unusedVariables false

theorem node_bulk (x : Nd) : a34.bulk x = (x.f0.size + 1) + (1 + ((sumOf (Arg.int .u8).bulk x.f2 + 1) + (x.f3.size + 1))) := rfl
theorem nodes_small {l : List Nd} {n : Nat} (h : sumOf a34.bulk l ≤ n) : l.length ≤ n ∧ ∀ x ∈ l, x.f0.size ≤ n ∧ x.f3.size ≤ n ∧ x.f2.length ≤ n := by
  refine ⟨Nat.le_trans (sumOf_length _ (fun x => by rw [node_bulk]; omega) l) h, fun x hx => ?_⟩
  have h1 := sumOf_mem a34.bulk hx
  rw [node_bulk] at h1
  have h2 := sumOf_length (Arg.int .u8).bulk (fun x => Nat.le_refl _) x.f2
  exact ⟨by omega, by omega, by omega⟩
theorem fit_of {l : List Nd} (hz : ∀ x ∈ l, x.f0.size ≤ 1048576 ∧ x.f3.size ≤ 1048576 ∧ x.f2.length ≤ 1048576) (hS : Pure.Sound l) : Fit (root :: l) := by
  intro x hx
  rcases List.mem_cons.1 hx with rfl | hx
  · exact ⟨by decide, by decide, by decide⟩
  · obtain ⟨h1, h2, h3⟩ := hz x hx
    refine ⟨by omega, by omega, fun hk => ?_⟩
    have := (Pure.fits_clean (hS.fits x hx)).2.2 hk
    rcases Nat.eq_zero_or_pos x.f3.size with h0 | h0
    · exact absurd (by rw [Lib.toList_data]; exact List.eq_nil_of_length_eq_zero (by simpa using h0)) this
    · exact h0

set_option maxRecDepth 100000 in
set_option maxHeartbeats 8000000 in
theorem real_walk (A : Option Addr) (c : Nat) (l : List Nd) (p : ByteArray) (w : World) (hm : Mx w) (hr : kNd.C w A l.length l) (hz : ∀ x ∈ l, x.f0.size ≤ 1048576 ∧ x.f3.size ≤ 1048576 ∧ x.f2.length ≤ 1048576) (hln : l.length ≤ 1048576) (hp : p.size ≤ 1048576) :
    Calls Tryd.prog 3 #[.slice A l.length c, .string p] w fun e w' => e = .returned (.bool true) ∧ Below w.heap.size w w' := by
  have HM := Lib.hid hm; have HR := Lib.hid hr; have HZ := Lib.hid hz; have HP := Lib.hid hp
  have HG := Lib.hid (great_any A c l w hr)
  have HN := Lib.hid (new_any A c l w hm hr (fun x hx => by obtain ⟨h1, h2, h3⟩ := hz x hx; exact ⟨by omega, by omega, by omega⟩) hln)
  have hu := Tryd.underlying34
  have hln2 : l.length ≤ 9223372036854775807 := by omega
  clear hm hr hz hln
  go_enter Tryd.func3, Tryd.ntmps3
  go_wp2_with fail
  refine HG.out.mono ?_
  rintro e w' ⟨b, rfl, hww⟩
  have hww2 := hww.symm
  subst hww2
  cases b with
  | true =>
    go_wp2
    go_ret
    exact ⟨rfl, Below.refl _ _⟩
  | false =>
    by_cases h4 : 4096 < p.size
    · go_wp2
      go_ret
      exact ⟨rfl, Below.refl _ _⟩
    · go_wp2_with fail
      refine HN.out.mono ?_
      rintro e w1 ⟨hB1, h1⟩
      have HB1 := Lib.hid hB1
      clear hB1
      rcases h1 with ⟨hn0, q, rfl, hF⟩ | ⟨hn0, rfl⟩
      · have HS := Lib.hid (Pure.sound_of hn0)
        have HFT := Lib.hid (fit_of HZ.out HS.out)
        have HF := Lib.hid hF.fsr
        have HRS := Lib.hid (resolve_any _ _ q (root :: l) HFT.out p w1 (HM.out.below HB1.out) HF.out (Nat.le_refl _) HP.out)
        have HER := Lib.hid (Pure.resolve_err (ns := root :: l) (p := p))
        have HID := Lib.hid (Pure.resolve_idx HS.out (p := p))
        have HAG := Lib.hid (Pure.real_again HS.out (p := p))
        clear hn0 hF
        obtain ⟨r, hr⟩ : ∃ r, r = resolveB (root :: l) p := ⟨_, rfl⟩
        rw [← hr] at HRS HER HID HAG
        clear hr
        obtain ⟨ri, rs, re⟩ := r
        by_cases h0 : re = 0
        · subst h0
          have HI := Lib.hid (HID.out rfl)
          have HRZ := Lib.hid (show rs.size ≤ 1048576 by
            obtain ⟨hmm, he⟩ := Pure.idx_node HI.out.1
            have he : ((root :: l).getD ri root).f0 = rs := he
            rcases List.mem_cons.1 hmm with h | h
            · rw [h] at he; rw [← he]; exact (by decide : (1 : Nat) ≤ 1048576)
            · have := (HZ.out _ h).1; rw [he] at this; exact this)
          have HRT := Lib.hid (fun (w2 : World) (hm2 : Mx w2) (hF2 : FSR w2 w.heap.size w1.heap.size q (root :: l)) (hh2 : w1.heap.size ≤ w2.heap.size) => resolve_any _ _ q (root :: l) HFT.out rs w2 hm2 hF2 hh2 HRZ.out)
          have hag : resolveB (root :: l) rs = (ri, rs, 0) := HAG.out rfl
          rw [hag] at HRT
          clear hag
          by_cases hz0 : ri = 0
          · subst hz0
            have hrs : rs = ⟨#[47]⟩ := by
              obtain ⟨hmm, he⟩ := Pure.idx_node HI.out.1
              exact he.symm
            subst hrs
            go_wp2_with fail
            refine HRS.out.mono ?_
            rintro e w2 ⟨rfl, hB2⟩
            have HB2 := Lib.hid hB2
            clear hB2
            go_wp2_with fail
            refine (HRT.out w2 (HM.out.below (below_then HB1.out HB1.out.size HB2.out)) (HF.out.below HB2.out) HB2.out.size).mono ?_
            rintro e w3 ⟨rfl, hB3⟩
            have HB3 := Lib.hid (below_then HB1.out HB1.out.size (below_then HB2.out HB2.out.size hB3))
            clear hB3
            go_wp2_with (go_at_call 9; refine (alive_any _ (HM.out.below HB3.out)).mono ?_; rintro e w4 ⟨rfl, hB4⟩)
            go_ret
            exact ⟨rfl, below_then HB3.out HB3.out.size hB4⟩
          · obtain ⟨k, rfl⟩ : ∃ k, ri = k + 1 := ⟨ri - 1, by omega⟩
            have hkl : k < l.length := by have := idxOf_lt HI.out.1; simp at this; omega
            obtain ⟨y, ad, B2, d2, rfl, hyd, hyl, y0, y1, y2, y3, m2, q2⟩ := node_at HR.out k hkl
            have HY := Lib.hid (show (root :: l).getD (k + 1) root = y by
              show l.getD k root = y
              rw [List.getD_eq_getElem?_getD]; have := congrArg List.head? hyd; rw [List.head?_drop] at this; rw [this]; rfl)
            have hy0 : y.f0 = rs := by rw [← HY.out]; exact (Pure.idx_node HI.out.1).2
            have hy1 : ¬ y.f1 = 3 := by rw [← HY.out]; exact HI.out.2
            rw [hy0] at y0
            have Y0 := Lib.hid y0; have Y1 := Lib.hid y1
            clear hyd hyl y0 y1 y2 y3 m2 q2 hy0 hz0
            go_wp2_with fail
            refine HRS.out.mono ?_
            rintro e w2 ⟨rfl, hB2⟩
            have HB2 := Lib.hid hB2
            clear hB2
            go_wp2_with fail
            refine (HRT.out w2 (HM.out.below (below_then HB1.out HB1.out.size HB2.out)) (HF.out.below HB2.out) HB2.out.size).mono ?_
            rintro e w3 ⟨rfl, hB3⟩
            have HB3 := Lib.hid (below_then HB1.out HB1.out.size (below_then HB2.out HB2.out.size hB3))
            clear hB3
            have y0 := pw_cell_below HB3.out Y0.out
            have y1 := pw_cell_below HB3.out Y1.out
            have ek0 : ((k + 1 : Nat) : Int) - 1 = (k : Int) := by omega
            have ek : IntKind.i64.wrap (((k + 1 : Nat) : Int) - 1) = (k : Int) := by rw [ek0]; exact IntWalk.i64_in _ (by omega)
            have ek2 : IntKind.i64.wrap (((k : Int) + 1) - 1) = (k : Int) := by rw [show ((k : Int) + 1) - 1 = (k : Int) by omega]; exact IntWalk.i64_in _ (by omega)
            go_wp2_with (go_at_call 9; refine (alive_any _ (HM.out.below HB3.out)).mono ?_; rintro e w4 ⟨rfl, hB4⟩)
            go_ret
            exact ⟨congrArg (fun b => Ending.returned (.bool b)) (show (y.f1 != 3) = true by simpa using hy1), below_then HB3.out HB3.out.size hB4⟩
        · obtain ⟨h1, h2⟩ := HER.out h0
          obtain rfl : ri = 0 := h1
          obtain rfl : rs = ⟨#[]⟩ := h2
          go_wp2_with fail
          refine HRS.out.mono ?_
          rintro e w2 ⟨rfl, hB2⟩
          have HB2 := Lib.hid (below_then HB1.out HB1.out.size hB2)
          clear hB2
          go_wp2_with (go_at_call 9; refine (alive_any _ (HM.out.below HB2.out)).mono ?_; rintro e w4 ⟨rfl, hB4⟩)
          go_ret
          exact ⟨rfl, below_then HB2.out HB2.out.size hB4⟩
      · generalize newB l = en at *
        go_wp2_with (go_at_call 9; refine (alive_any _ (HM.out.below HB1.out)).mono ?_; rintro e w4 ⟨rfl, hB4⟩)
        go_ret
        exact ⟨rfl, below_then HB1.out HB1.out.size hB4⟩

theorem vfsReal_law (W : World) (hM : Mx W) (l : List Nd) (A : Option Addr) (n c : Nat) (K : (Arg.slice 34 a34).kd.K W l (Value.slice A n c).cells.toList) (_f0 : (Arg.slice 34 a34).wf l) (p : ByteArray) (_f1 : Arg.str.wf p)
    (hb : (Arg.slice 34 a34).bulk l + Arg.str.bulk p ≤ 1048576) :
    Calls Tryd.prog 3 #[.slice A n c, .string p] W fun e w' => e = .returned (.bool true) ∧ Below W.heap.size W w' := by
  obtain ⟨A', c', e, hle, hC⟩ := K
  have e2 : [Value.slice A n c] = [.slice A' l.length c'] := e
  injection e2 with e3 _
  injection e3 with e4 e5 e6
  subst e4 e5 e6
  have h1 : (Arg.slice 34 a34).bulk l = sumOf a34.bulk l + 1 := rfl
  have h2 : Arg.str.bulk p = p.size + 1 := rfl
  obtain ⟨h3, h4⟩ := nodes_small (l := l) (n := 1048576) (by omega)
  exact real_walk _ _ l p W hM hC h4 h3 (by omega)

end Go.Proofs.YtlkacodngjdagaaDoor.Vfs
