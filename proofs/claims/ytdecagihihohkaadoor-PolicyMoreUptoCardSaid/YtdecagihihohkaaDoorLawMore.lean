/- The statement PolicyMore: what a namespace may have it may have with a folder more. -/
import Derived.Test.YtdecagihihohkaaDoorLawG20
import Derived.Deep.RegionHeld3
namespace Go.Proofs.YtdecagihihohkaaDoor.L20
open Go Go.RowKit Go.Proofs.YtdecagihihohkaaDoorW.PrintWords Go.Proofs.YtdecagihihohkaaDoor.Kinds Go.Proofs.YtdecagihihohkaaDoor.Str Go.Proofs.YtdecagihihohkaaDoor.Ev Go.Proofs.YtdecagihihohkaaDoor.Frame
set_option linter.unusedVariables false

def restL (first : Bool) (a : S30) : List Value := [.bool first, .string a.f3, .string a.f4, .string a.f5]
theorem R_C {α : Type} {d : Kd α} {e : Nat} {w : World} {base : Nat} {ok : Nat → Prop} {A : Option Addr} {n c : Nat} {xs : List α} (h : d.R e w base ok (.slice A n c) xs) : xs.length ≤ c ∧ d.C w A xs.length xs := by
  obtain ⟨A', c', he, hl, hc⟩ := Kd.R_reads h
  injection he with h1 h2 h3
  subst h1 h3
  exact ⟨hl, hc⟩
theorem mem_more {d : ByteArray} {l : List ByteArray} (hd : d.size < 4294967281) (hl : ∀ x ∈ l, x.size < 4294967281) : ∀ x ∈ [d] ++ l, x.size < 4294967281 := by
  intro x hx
  rcases List.mem_append.1 hx with h | h
  · rw [List.mem_singleton.1 h]; exact hd
  · exact hl x h
theorem none_C {α : Type} {d : Kd α} {W : World} : d.C W none 0 [] := ⟨rfl, by decide, fun h => absurd h (by decide)⟩
theorem bare_K (W : World) (nm : ByteArray) : k25.K W (⟨nm, true, false, [], [], [], []⟩ : S25) (#[.string nm, .bool true, .bool false, .slice none 0 0, .slice none 0 0, .slice none 0 0, .slice none 0 0] : Array Value).toList :=
  k25_mk W ⟨nm, true, false, [], [], [], []⟩ (Nat.le_refl _) none_C (Nat.le_refl _) none_C (Nat.le_refl _) none_C (Nat.le_refl _) none_C
theorem take0 (C : Array Value) : (C.toList.drop 0).take C.toList.length = C.toList := by rw [List.drop_zero, List.take_length]

set_option maxRecDepth 100000 in
set_option maxHeartbeats 8000000 in
theorem more_walk (a : S30) (first : Bool) (hf : a.f2 = first) (sp st : Array Value) (C : Array Value) (dir : ByteArray) (permitted : Bool) (w : World) (hm : Mx w) (hC : C.toList = sp.toList ++ (st.toList ++ restL first a)) (hsp : k25.K w a.f0 sp.toList) (hst : k28.K w a.f1 st.toList)
    (hs : a.f3.size < 4294967281) (hd : a.f1.f4.size < 4294967281) (hz3 : ∀ x ∈ a.f0.f3, x.size < 4294967281) (hz4 : ∀ x ∈ a.f0.f4, x.size < 4294967281) (hdir : dir.size < 4294967281) (b3 : a.f0.f3.length ≤ 1048576) (b4 : a.f0.f4.length ≤ 1048576) :
    Calls Tryd.prog 4 #[.agg C, .string dir, .bool permitted] w fun e w' => e = .returned (.bool true) ∧ Below w.heap.size w w' := by
  have m1 : sp.toList.length = 7 := k25.K_len hsp
  have m2 : st.toList.length = 7 := k28.K_len hst
  have L1 := Lib.hid (show (C.toList.drop 0).take sp.toList.length = sp.toList by rw [hC, List.drop_zero, List.take_left])
  have L2 := Lib.hid (show (C.toList.drop 7).take st.toList.length = st.toList by rw [hC, ← m1, List.drop_left, List.take_left])
  have E14 : Hid (C[14]? = some (.bool first)) := by
    show _ = _
    rw [← Array.getElem?_toList, hC, List.getElem?_append_right (by omega), List.getElem?_append_right (by omega), m1, m2]; rfl
  have E15 : Hid (C[15]? = some (.string a.f3)) := by
    show _ = _
    rw [← Array.getElem?_toList, hC, List.getElem?_append_right (by omega), List.getElem?_append_right (by omega), m1, m2]; rfl
  have HK : Hid (k30.K w a C.toList) := ⟨sp.toList, st.toList ++ restL first a, hC, hsp, ⟨st.toList, restL first a, rfl, hst, ⟨[.bool first], [.string a.f3, .string a.f4, .string a.f5], rfl, by rw [← hf]; rfl, ⟨[.string a.f3], [.string a.f4, .string a.f5], rfl, rfl, ⟨[.string a.f4], [.string a.f5], rfl, rfl, rfl⟩⟩⟩⟩⟩
  have L0 := Lib.hid (take0 C)
  have hlen : C.toList.length = 18 := by rw [hC, List.length_append, List.length_append, m1, m2]; rfl
  have J25 : (Tryd.prog.info? 25).map (·.size) = some 7 := by kernel_rfl
  have J28 : (Tryd.prog.info? 28).map (·.size) = some 7 := by kernel_rfl
  have J30 : (Tryd.prog.info? 30).map (·.size) = some 18 := by kernel_rfl
  have I30 : Hid ((Tryd.prog.info? 30).map (·.size) = some C.toList.length) := by rw [hlen]; exact J30
  have I25 : Hid ((Tryd.prog.info? 25).map (·.size) = some sp.toList.length) := by rw [m1]; exact J25
  have I28 : Hid ((Tryd.prog.info? 28).map (·.size) = some st.toList.length) := by rw [m2]; exact J28
  have I25b : Hid ((Tryd.prog.info? 25).map (·.size) = some (#[.string a.f0.f0, .bool true, .bool false, .slice none 0 0, .slice none 0 0, .slice none 0 0, .slice none 0 0] : Array Value).size) := J25
  have SZB : Hid ((#[.string ⟨#[]⟩, .bool false, .bool false, .slice none 0 0, .slice none 0 0, .slice none 0 0, .slice none 0 0] : Array Value).size = (#[.string a.f0.f0, .bool true, .bool false, .slice none 0 0, .slice none 0 0, .slice none 0 0, .slice none 0 0] : Array Value).size) := rfl
  have SZ : Hid ((#[.string ⟨#[]⟩, .bool false, .bool false, .slice none 0 0, .slice none 0 0, .slice none 0 0, .slice none 0 0] : Array Value).size = sp.size) := by show 7 = sp.size; rw [← m1, Array.length_toList]
  have I25a : Hid ((Tryd.prog.info? 25).map (·.size) = some sp.size) := by rw [← Array.length_toList]; exact I25
  have ONE := Lib.hid (show ∀ v ∈ sp.toList, v.oneCell' = true from fun v hv => k25.K_one hsp v hv)
  have LS := Lib.hid (take0 sp)
  obtain ⟨A3, c3, A4, c4, A5, c5, A6, c6, hspe, l3, g3, l4, g4, l5, g5, l6, g6⟩ := k25_open hsp
  have hspa : sp = #[.string a.f0.f0, .bool a.f0.f1, .bool a.f0.f2, .slice A3 a.f0.f3.length c3, .slice A4 a.f0.f4.length c4, .slice A5 a.f0.f5.length c5, .slice A6 a.f0.f6.length c6] := congrArg List.toArray hspe
  have F0 : Hid (sp[0]? = some (.string a.f0.f0)) := by rw [hspa]; rfl
  have F1 : Hid (sp[1]? = some (.bool a.f0.f1)) := by rw [hspa]; rfl
  have F3 : Hid (sp[3]? = some (.slice A3 a.f0.f3.length c3)) := by rw [hspa]; rfl
  have F4 : Hid (sp[4]? = some (.slice A4 a.f0.f4.length c4)) := by rw [hspa]; rfl
  have SPE := Lib.hid hspa
  have G3 := Lib.hid (And.intro l3 g3)
  have G4 := Lib.hid (And.intro l4 g4)
  have G5 := Lib.hid (And.intro l5 g5)
  have G6 := Lib.hid (And.intro l6 g6)
  have Z3 : Hid (a.f0.f3.length ≤ 1048576) := b3
  have Z4 : Hid (a.f0.f4.length ≤ 1048576) := b4
  obtain ⟨A2, c2, hste, l2, g2⟩ := k28_open hst
  have hsta : st = #[.int .u16 a.f1.f0, .int .i64 a.f1.f1, .slice A2 a.f1.f2.length c2, .int .i64 a.f1.f3, .string a.f1.f4, .int .i64 a.f1.f5, .int .i64 a.f1.f6] := congrArg List.toArray hste
  have ES : ∀ j, j < 7 → C[7 + j]? = st[j]? := by
    intro j hj
    rw [← Array.getElem?_toList, hC, List.getElem?_append_right (by omega), List.getElem?_append_left (by omega), m1, ← Array.getElem?_toList]
    congr 1
    omega
  have E7 : Hid (C[7]? = some (.int .u16 a.f1.f0)) := by show _ = _; rw [ES 0 (by decide), hsta]; rfl
  have E8 : Hid (C[8]? = some (.int .i64 a.f1.f1)) := by show _ = _; rw [ES 1 (by decide), hsta]; rfl
  have E9 : Hid (C[9]? = some (.slice A2 a.f1.f2.length c2)) := by show _ = _; rw [ES 2 (by decide), hsta]; rfl
  have E10 : Hid (C[10]? = some (.int .i64 a.f1.f3)) := by show _ = _; rw [ES 3 (by decide), hsta]; rfl
  have E11 : Hid (C[11]? = some (.string a.f1.f4)) := by show _ = _; rw [ES 4 (by decide), hsta]; rfl
  have E12 : Hid (C[12]? = some (.int .i64 a.f1.f5)) := by show _ = _; rw [ES 5 (by decide), hsta]; rfl
  have E13 : Hid (C[13]? = some (.int .i64 a.f1.f6)) := by show _ = _; rw [ES 6 (by decide), hsta]; rfl
  have HSTL : Hid (k28.K w a.f1 [.int .u16 a.f1.f0, .int .i64 a.f1.f1, .slice A2 a.f1.f2.length c2, .int .i64 a.f1.f3, .string a.f1.f4, .int .i64 a.f1.f5, .int .i64 a.f1.f6]) := by rw [hsta] at hst; exact hst
  have ONEB := Lib.hid (show ∀ v ∈ (#[.string a.f0.f0, .bool true, .bool false, .slice none 0 0, .slice none 0 0, .slice none 0 0, .slice none 0 0] : Array Value).toList, v.oneCell' = true from fun v hv => by simp at hv; rcases hv with rfl | rfl | rfl | rfl <;> rfl)
  clear ES hsta hste l2 g2
  have HM := Lib.hid hm
  have HSP := Lib.hid hsp
  have HST := Lib.hid hst
  have M1 := Lib.hid m1
  have M2 := Lib.hid m2
  have B1 := Lib.hid hs
  have B2 := Lib.hid hd
  have B3 := Lib.hid hz3
  have B4 := Lib.hid hz4
  have B5 := Lib.hid hdir
  have HF := Lib.hid hf
  have U25 := Lib.hid Tryd.underlying25
  have U28 := Lib.hid Tryd.underlying28
  have U30 := Lib.hid Tryd.underlying30
  clear hspe hspa l3 l4 l5 l6 g3 g4 g5 g6 b3 b4 hlen hm hsp hst m1 m2 hs hd hz3 hz4 hdir hC J25 J28 J30 hf
  go_enter Tryd.func4, Tryd.ntmps4
  go_wp2_with (first
    | ((with_reducible refine gate_dst (N := 3) rfl ?_); refine box_event ?hg (N := 3) ?hd (cs := C) (t := 30) ?hr ?_; (case hd => rfl); (case hg => rfl); (case hr => first | (go_simp; done) | (go_simp; rfl)); intro g0 hg_ w1 hb_ hw_; have HB0 := Lib.hid hb_; have HW1 := Lib.hid hw_; have HG0 := Lib.hid (show w.heap.size ≤ g0 by omega); clear hb_ hw_ hg_)
    | (with_reducible refine ev_load rfl 30 (.tmp 3) rfl _ _ rfl HB0.out C.toList L0.out U30.out rfl I30.out ?_))
  refine (great_K a C _ (k30.K_below HW1.out HK.out)).mono ?_
  rintro e w2 ⟨b, rfl, hb2⟩
  have HB2 := Lib.hid (blk_below HB0.out hb2)
  have HW2 := Lib.hid (below_then HW1.out HW1.out.size hb2)
  clear HW1 HB0 hb2
  cases b with
  | true =>
    go_wp2
    go_ret
    exact ⟨rfl, HW2.out⟩
  | false =>
    by_cases hd : 4096 < dir.size
    · have hd1 : decide (4096 < dir.size) = true := decide_eq_true hd
      go_wp2
      go_ret
      exact ⟨rfl, HW2.out⟩
    · have hd1 : decide (4096 < dir.size) = false := decide_eq_false hd
      go_wp2_with (first
        | (with_reducible refine ev_load rfl 25 (.tmp 18) rfl _ _ rfl HB2.out sp.toList L1.out U25.out rfl I25.out ?_)
        | ((with_reducible refine gate_dst (N := 7) rfl ?_); refine box_event ?hg (N := 7) ?hd (cs := #[.string ⟨#[]⟩, .bool false, .bool false, .slice none 0 0, .slice none 0 0, .slice none 0 0, .slice none 0 0]) (t := 25) ?hr ?_; (case hd => rfl); (case hg => rfl); (case hr => first | (go_simp; done) | (go_simp; rfl)); intro g7 hg_ w3 hb_ hw_; have HB3 := Lib.hid hb_; have HG7 := Lib.hid (show w.heap.size ≤ g7 by have := HW2.out.size; omega); have HA3 := Lib.hid (blk_below HB2.out hw_); have HW3 := Lib.hid (below_then HW2.out HW2.out.size hw_); have N7 := Lib.hid (show g0 ≠ g7 by have := blk_lt HB2.out; omega); clear hb_ hw_ hg_)
        | (with_reducible refine ev_store_all rfl rfl 25 (.tmp 7) (.tmp 19) rfl _ rfl sp rfl HB3.out SZ.out I25a.out ONE.out ?_; intro w4 hb_ ho_; have HB4 := Lib.hid hb_; have HA4 := Lib.hid (ho_.blk HA3.out N7.out); have HW4 := Lib.hid (below_only HW3.out ho_ (fun i hi => by rw [hi]; exact HG7.out)); have c14 := cell_blk HA4.out E14.out; have c15 := cell_blk HA4.out E15.out; clear hb_ ho_)
        | (with_reducible refine ev_load rfl 25 (.tmp 7) rfl _ _ rfl HB4.out sp.toList LS.out U25.out rfl I25.out ?_)
        | (with_reducible refine ev_load rfl 28 (.tmp 21) rfl _ _ rfl HA4.out st.toList L2.out U28.out rfl I28.out ?_))
      clear c14 c15
      obtain ⟨has, hhas⟩ : ∃ has, has = polAcc a.f0.f1 a.f0.f3 a.f0.f4 first (polGrey a.f1.f1 a.f1.f3 a.f1.f2 a.f1.f4 a.f3) a.f3 := ⟨_, rfl⟩
      have HAS := Lib.hid hhas
      clear hhas
      refine (as_bool HAS.out.symm (acc_K a.f0 a.f1 sp st first a.f3 _ (HM.out.below HW4.out) (k25.K_below HW4.out HSP.out) (k28.K_below HW4.out HST.out) B1.out B2.out B3.out B4.out)).mono ?_
      rintro e w5 ⟨rfl, hw5⟩
      have HB5 := Lib.hid (blk_below HB4.out hw5)
      have HA5 := Lib.hid (blk_below HA4.out hw5)
      have HW5 := Lib.hid (below_then HW4.out HW4.out.size hw5)
      clear hw5
      obtain ⟨pm, hpm⟩ : ∃ pm, pm = permitted := ⟨_, rfl⟩
      clear hpm pm
      cases permitted with
      | true =>
       cases has with
       | true =>
        go_wp2_with (first
          | (with_reducible refine ev_load rfl 25 (.tmp 7) rfl _ _ rfl HB5.out sp.toList LS.out U25.out rfl I25.out ?_)
          | ((with_reducible refine gate_dst (N := 9) rfl ?_); refine box_event ?hg (N := 9) ?hd (cs := #[.string ⟨#[]⟩, .bool false, .bool false, .slice none 0 0, .slice none 0 0, .slice none 0 0, .slice none 0 0]) (t := 25) ?hr ?_; (case hd => rfl); (case hg => rfl); (case hr => first | (go_simp; done) | (go_simp; rfl)); intro g9 hg_ w6 hb_ hw_; have HC6 := Lib.hid hb_; have HG9 := Lib.hid (show w.heap.size ≤ g9 by have := HW5.out.size; omega); have HA6 := Lib.hid (blk_below HA5.out hw_); have HB6 := Lib.hid (blk_below HB5.out hw_); have HW6 := Lib.hid (below_then HW5.out HW5.out.size hw_); have N9 := Lib.hid (show g0 ≠ g9 by have := blk_lt HA5.out; omega); have N79 := Lib.hid (show g7 ≠ g9 by have := blk_lt HB5.out; omega); clear hb_ hw_ hg_)
          | (with_reducible refine ev_store_all rfl rfl 25 (.tmp 9) (.tmp 28) rfl _ rfl sp rfl HC6.out SZ.out I25a.out ONE.out ?_; intro w7 hb_ ho_; have HC7 := Lib.hid hb_; have HA7 := Lib.hid (ho_.blk HA6.out N9.out); have HB7 := Lib.hid (ho_.blk HB6.out N79.out); have HW7 := Lib.hid (below_only HW6.out ho_ (fun i hi => by rw [hi]; exact HG9.out)); clear hb_ ho_)
          | ((with_reducible refine gate_dst (N := 31) rfl ?_); refine Kd.R_lit Kd.string w.heap.size 9 ?hg (N := 31) ?hd (xs := [dir]) (inner := [.string dir]) (ok := fun k => w7.heap.size ≤ k) (okp := fun k => w7.heap.size ≤ k) (w0 := w) ?hr ⟨rfl, ?hrep⟩ (fun _ h => h) (Nat.le_refl _) ?hB ?hbase (by simp) ?_; (case hg => rfl); (case hd => rfl); (case hr => first | (go_simp; done) | (go_simp; rfl)); (case hrep => intro j p hj; match j, hj with | 0, hj => (obtain rfl : dir = p := (by simpa using hj)); rfl); (case hB => exact HW7.out); (case hbase => exact HW7.out.size); intro v8 w8 hR8 hB8 hg8 hown8; have HR8 := Lib.hid hR8; have O8 := Lib.hid hown8; have HA8 := Lib.hid ((only_grown hg8).blk HA7.out (by simp)); have HB8 := Lib.hid ((only_grown hg8).blk HB7.out (by simp)); have HC8 := Lib.hid ((only_grown hg8).blk HC7.out (by simp)); have HW8 := Lib.hid (below_only HW7.out (only_grown hg8) (by simp)); have SZ8 := Lib.hid (show w7.heap.size ≤ w8.heap.size from hg8.size); have c4 := cell_blk HB8.out F4.out; clear hR8 hB8 hg8 hown8)
          | (at_builtin; have c4' := Lib.hid c4; clear c4; refine Kd.R_append_row Value.string ByteArray.empty (w0 := w) w.heap.size rfl _ _ 22 9 (.string ⟨#[]⟩) 16 rfl Tryd.underlying22 (by kernel_rfl) rfl (by decide) v8 [dir] a.f0.f4 A4 a.f0.f4.length c4 (fun k => w7.heap.size ≤ k) rfl rfl (fun k hk => Nat.le_trans SZ8.out hk) HR8.out (Kd.C_below G4.out.2 HW8.out) HW8.out HW8.out.size (by have := Z4.out; simp; omega) ?_; intro v9 w9 hR9 hB9 hg9 hat9; obtain ⟨A9, c9, rfl, l9, g9'⟩ := Kd.R_reads hR9; have HR9 := Lib.hid hR9; have NE := Lib.hid (show ∀ g, g < w7.heap.size → ¬ (some g = v8.ownBlock) from fun g hg he => by obtain ⟨b, hb1, hb2⟩ := O8.out; rw [hb1] at he; injection he with he; omega); have HA9 := Lib.hid ((only_grown hg9).blk HA8.out (NE.out _ (blk_lt HA7.out))); have HB9 := Lib.hid ((only_grown hg9).blk HB8.out (NE.out _ (blk_lt HB7.out))); have HC9 := Lib.hid ((only_grown hg9).blk HC8.out (NE.out _ (blk_lt HC7.out))); have HW9 := Lib.hid hB9; clear hR9 hB9 hg9 hat9 l9 g9')
          | ((with_reducible refine gate_store (t := 22) (p := 35) rfl ?_); refine ev_store_cell rfl rfl g9 4 (.slice A9 (a.f0.f4.length + 1) c9) HC9.out ?hst ?_; (case hst => (have f1 := cell_blk HC9.out F4.out; have f2 := blk_frozen HC9.out 4; first | (go_simp; done) | (go_simp; rfl))); intro w10 hb10 ho10; obtain ⟨sp9, hs9⟩ : ∃ x, x = sp.setIfInBounds 4 (.slice A9 (a.f0.f4.length + 1) c9) := ⟨_, rfl⟩; rw [← hs9] at hb10; have HS9 := Lib.hid hs9; clear hs9; have HC10 := Lib.hid hb10; have HA10 := Lib.hid (ho10.blk HA9.out N9.out); have HB10 := Lib.hid (ho10.blk HB9.out N79.out); have HO10 := Lib.hid ho10; have HW10 := Lib.hid (below_only HW9.out ho10 (fun i hi => by rw [hi]; exact HG9.out)); have c14 := cell_blk HA10.out E14.out; have c15 := cell_blk HA10.out E15.out; have HR10 := Kd.R_step HR9.out (fun k hk hlt => HO10.out.block k hlt (fun he => by have h1 := blk_lt HC7.out; have h2 : w7.heap.size ≤ k := hk; omega)); have HL9 := Lib.hid (R_C HR10); have KM := Lib.hid (show k25.K w10 ⟨a.f0.f0, a.f0.f1, a.f0.f2, a.f0.f3, [dir] ++ a.f0.f4, a.f0.f5, a.f0.f6⟩ sp9.toList by rw [HS9.out, SPE.out]; exact k25_mk w10 ⟨a.f0.f0, a.f0.f1, a.f0.f2, a.f0.f3, [dir] ++ a.f0.f4, a.f0.f5, a.f0.f6⟩ G3.out.1 (Kd.C_below G3.out.2 HW10.out) HL9.out.1 HL9.out.2 G5.out.1 (Kd.C_below G5.out.2 HW10.out) G6.out.1 (Kd.C_below G6.out.2 HW10.out)); have IM : Hid ((Tryd.prog.info? 25).map (·.size) = some sp9.toList.length) := (by show _ = _; rw [HS9.out, Array.length_toList, Array.size_setIfInBounds]; exact I25a.out); clear HR10 hb10 ho10)
          | (with_reducible refine ev_load rfl 25 (.tmp 9) rfl _ _ rfl HC10.out sp9.toList (take0 _) U25.out rfl IM.out ?_)
          | (with_reducible refine ev_load rfl 28 (.tmp 45) rfl _ _ rfl HA10.out st.toList L2.out U28.out rfl I28.out ?_)
          | (go_at_call 9; refine (as_bool (acc_more_perm HAS.out.symm) (acc_K ⟨a.f0.f0, a.f0.f1, a.f0.f2, a.f0.f3, [dir] ++ a.f0.f4, a.f0.f5, a.f0.f6⟩ a.f1 sp9 st first a.f3 _ (HM.out.below HW10.out) KM.out (k28.K_below HW10.out HST.out) B1.out B2.out B3.out (mem_more B5.out B4.out))).mono ?_; rintro e w11 ⟨rfl, hw11⟩; have HB11 := Lib.hid (blk_below HB10.out hw11); have HA11 := Lib.hid (blk_below HA10.out hw11); have HW11 := Lib.hid (below_then HW10.out HW10.out.size hw11); clear c14 c15 hw11; have c0 := cell_blk HB11.out F0.out; have c1 := cell_blk HB11.out F1.out)
          | ((with_reducible refine gate_dst (N := 10) rfl ?_); refine box_event ?hg (N := 10) ?hd (cs := #[.string ⟨#[]⟩, .bool false, .bool false, .slice none 0 0, .slice none 0 0, .slice none 0 0, .slice none 0 0]) (t := 25) ?hr ?_; (case hd => rfl); (case hg => rfl); (case hr => first | (go_simp; done) | (go_simp; rfl)); intro g10 hg_ w12 hb_ hw_; have HX12 := Lib.hid hb_; have HG10 := Lib.hid (show w.heap.size ≤ g10 by have := HW11.out.size; omega); have HA12 := Lib.hid (blk_below HA11.out hw_); have HW12 := Lib.hid (below_then HW11.out HW11.out.size hw_); have N10 := Lib.hid (show g0 ≠ g10 by have := blk_lt HA11.out; omega); clear hb_ hw_ hg_)
          | (with_reducible refine ev_store_all rfl rfl 25 (.tmp 10) (.tmp 65) rfl _ rfl #[.string a.f0.f0, .bool true, .bool false, .slice none 0 0, .slice none 0 0, .slice none 0 0, .slice none 0 0] rfl HX12.out SZB.out I25b.out ONEB.out ?_; intro w13 hb_ ho_; have HX13 := Lib.hid hb_; have HA13 := Lib.hid (ho_.blk HA12.out N10.out); have HW13 := Lib.hid (below_only HW12.out ho_ (fun i hi => by rw [hi]; exact HG10.out)); clear c0 c1; clear hb_ ho_))
        next =>
          obtain ⟨G, hG⟩ : ∃ G, G = polGrey a.f1.f1 a.f1.f3 a.f1.f2 a.f1.f4 a.f3 := ⟨_, rfl⟩
          have HG := Lib.hid hG
          clear hG
          have eqG : (G == G) = true := by simp
          have MB : Hid (k25.K w13 (⟨a.f0.f0, true, false, [], [], [], []⟩ : S25) #[.string a.f0.f0, .bool true, .bool false, .slice none 0 0, .slice none 0 0, .slice none 0 0, .slice none 0 0].toList) := bare_K w13 a.f0.f0
          have KB := Lib.hid (fun W' (h : Below w.heap.size w W') => bare_K W' a.f0.f0)
          have KS := Lib.hid (fun W' (h : Below w.heap.size w W') => k28.K_below h HSTL.out)
          have d_g10_0 := cell_blk HX13.out (j := 0) rfl
          have d_g10_1 := cell_blk HX13.out (j := 1) rfl
          have d_g10_2 := cell_blk HX13.out (j := 2) rfl
          have d_g10_3 := cell_blk HX13.out (j := 3) rfl
          have d_g10_4 := cell_blk HX13.out (j := 4) rfl
          have d_g10_5 := cell_blk HX13.out (j := 5) rfl
          have d_g10_6 := cell_blk HX13.out (j := 6) rfl
          have d_g0_7 := cell_blk HA13.out (j := 7) E7.out
          have d_g0_8 := cell_blk HA13.out (j := 8) E8.out
          have d_g0_9 := cell_blk HA13.out (j := 9) E9.out
          have d_g0_10 := cell_blk HA13.out (j := 10) E10.out
          have d_g0_11 := cell_blk HA13.out (j := 11) E11.out
          have d_g0_12 := cell_blk HA13.out (j := 12) E12.out
          have d_g0_13 := cell_blk HA13.out (j := 13) E13.out
          have d_g0_14 := cell_blk HA13.out (j := 14) E14.out
          have d_g0_15 := cell_blk HA13.out (j := 15) E15.out
          cases first with
          | false =>
            have hbel := HW13.out
            refine wp_region_held_drew (S := fun w' => w'.cell? ⟨g10, 0, none⟩ = some (.string a.f0.f0) ∧ w'.cell? ⟨g10, 1, none⟩ = some (.bool true) ∧ w'.cell? ⟨g10, 2, none⟩ = some (.bool false) ∧ w'.cell? ⟨g10, 3, none⟩ = some (.slice none 0 0) ∧ w'.cell? ⟨g10, 4, none⟩ = some (.slice none 0 0) ∧ w'.cell? ⟨g10, 5, none⟩ = some (.slice none 0 0) ∧ w'.cell? ⟨g10, 6, none⟩ = some (.slice none 0 0) ∧ w'.cell? ⟨g0, 7, none⟩ = some (.int .u16 a.f1.f0) ∧ w'.cell? ⟨g0, 8, none⟩ = some (.int .i64 a.f1.f1) ∧ w'.cell? ⟨g0, 9, none⟩ = some (.slice A2 a.f1.f2.length c2) ∧ w'.cell? ⟨g0, 10, none⟩ = some (.int .i64 a.f1.f3) ∧ w'.cell? ⟨g0, 11, none⟩ = some (.string a.f1.f4) ∧ w'.cell? ⟨g0, 12, none⟩ = some (.int .i64 a.f1.f5) ∧ w'.cell? ⟨g0, 13, none⟩ = some (.int .i64 a.f1.f6) ∧ w'.cell? ⟨g0, 14, none⟩ = some (.bool false) ∧ w'.cell? ⟨g0, 15, none⟩ = some (.string a.f3) ∧ Below w.heap.size w w') (by kernel_rfl) ?hS1 (fun hHeld => ?_)
            case hS1 => (go_split_ands; (repeat' apply And.intro) <;> (first | assumption | exact pw_cell_below (by assumption) (by assumption) | exact below_step (by assumption) (by assumption) | exact below_drew1 (by assumption)))
            refine wpAnyH_take (i := 0) (oi := { dst := some 66, op := _, type := _, pos := _, after := _, guard := _ }) (v := ?v2) rfl (by kernel_rfl) (by kernel_rfl) (by kernel_rfl) (fun _ _ _ h => h) (Or.inl ⟨by rfl, ?hy2⟩) (by assumption) ?r2
            case hy2 => (intro w hSw; (try dsimp only at hSw); first | (go_simp; done) | (go_simp; with_reducible rfl))
            try simp only [Act.put, List.setIfInBounds_toArray, List.set_cons_zero, List.set_cons_succ]
            refine wpAnyH_take (i := 1) (oi := { dst := some 67, op := _, type := _, pos := _, after := _, guard := _ }) (v := ?v3) rfl (by kernel_rfl) (by kernel_rfl) (by kernel_rfl) (fun _ _ _ h => h) (Or.inl ⟨by rfl, ?hy3⟩) (by assumption) ?r3
            case hy3 => (intro w hSw; (try dsimp only at hSw); first | (go_simp; done) | (go_simp; with_reducible rfl))
            try simp only [Act.put, List.setIfInBounds_toArray, List.set_cons_zero, List.set_cons_succ]
            refine wpAnyH_take (i := 2) (oi := { dst := some 68, op := _, type := _, pos := _, after := _, guard := _ }) (v := ?v4) rfl (by kernel_rfl) (by kernel_rfl) (by kernel_rfl) (fun _ _ _ h => h) (Or.inl ⟨by rfl, ?hy4⟩) (by assumption) ?r4
            case hy4 => (intro w hSw; (try dsimp only at hSw); first | (go_simp; done) | (go_simp; with_reducible rfl))
            try simp only [Act.put, List.setIfInBounds_toArray, List.set_cons_zero, List.set_cons_succ]
            refine wpAnyH_take (i := 3) (oi := { dst := some 69, op := _, type := _, pos := _, after := _, guard := _ }) (v := ?v5) rfl (by kernel_rfl) (by kernel_rfl) (by kernel_rfl) (fun _ _ _ h => h) (Or.inl ⟨by rfl, ?hy5⟩) (by assumption) ?r5
            case hy5 => (intro w hSw; (try dsimp only at hSw); first | (go_simp; done) | (go_simp; with_reducible rfl))
            try simp only [Act.put, List.setIfInBounds_toArray, List.set_cons_zero, List.set_cons_succ]
            refine wpAnyH_take (i := 4) (oi := { dst := some 70, op := _, type := _, pos := _, after := _, guard := _ }) (v := ?v6) rfl (by kernel_rfl) (by kernel_rfl) (by kernel_rfl) (fun _ _ _ h => h) (Or.inl ⟨by rfl, ?hy6⟩) (by assumption) ?r6
            case hy6 => (intro w hSw; (try dsimp only at hSw); first | (go_simp; done) | (go_simp; with_reducible rfl))
            try simp only [Act.put, List.setIfInBounds_toArray, List.set_cons_zero, List.set_cons_succ]
            refine wpAnyH_take (i := 5) (oi := { dst := some 71, op := _, type := _, pos := _, after := _, guard := _ }) (v := ?v7) rfl (by kernel_rfl) (by kernel_rfl) (by kernel_rfl) (fun _ _ _ h => h) (Or.inl ⟨by rfl, ?hy7⟩) (by assumption) ?r7
            case hy7 => (intro w hSw; (try dsimp only at hSw); first | (go_simp; done) | (go_simp; with_reducible rfl))
            try simp only [Act.put, List.setIfInBounds_toArray, List.set_cons_zero, List.set_cons_succ]
            refine wpAnyH_take (i := 6) (oi := { dst := some 72, op := _, type := _, pos := _, after := _, guard := _ }) (v := ?v8) rfl (by kernel_rfl) (by kernel_rfl) (by kernel_rfl) (fun _ _ _ h => h) (Or.inl ⟨by rfl, ?hy8⟩) (by assumption) ?r8
            case hy8 => (intro w hSw; (try dsimp only at hSw); first | (go_simp; done) | (go_simp; with_reducible rfl))
            try simp only [Act.put, List.setIfInBounds_toArray, List.set_cons_zero, List.set_cons_succ]
            refine wpAnyH_take (i := 8) (oi := { dst := some 74, op := _, type := _, pos := _, after := _, guard := _ }) (v := ?v9) rfl (by kernel_rfl) (by kernel_rfl) (by kernel_rfl) (fun _ _ _ h => h) (Or.inl ⟨by rfl, ?hy9⟩) (by assumption) ?r9
            case hy9 => (intro w hSw; (try dsimp only at hSw); first | (go_simp; done) | (go_simp; with_reducible rfl))
            try simp only [Act.put, List.setIfInBounds_toArray, List.set_cons_zero, List.set_cons_succ]
            refine wpAnyH_take (i := 9) (oi := { dst := some 75, op := _, type := _, pos := _, after := _, guard := _ }) (v := ?v10) rfl (by kernel_rfl) (by kernel_rfl) (by kernel_rfl) (fun _ _ _ h => h) (Or.inl ⟨by rfl, ?hy10⟩) (by assumption) ?r10
            case hy10 => (intro w hSw; (try dsimp only at hSw); first | (go_simp; done) | (go_simp; with_reducible rfl))
            try simp only [Act.put, List.setIfInBounds_toArray, List.set_cons_zero, List.set_cons_succ]
            refine wpAnyH_ready (rs := [7]) (by kernel_rfl) (by simp) ?_
            refine AllReadyH.cons (o := { dst := some 73, op := _, type := _, pos := _, after := _, guard := _ }) rfl (fun K hK => ?_) AllReadyH.nil
            go_simp
            (go_at_call 9; refine (as_bool ((acc_bare false _ _).trans (rfl : (false && _) = false)) (acc_K _ a.f1 _ _ false a.f3 _ (HM.out.below (by go_split_ands; assumption)) (KB.out _ (by go_split_ands; assumption)) (KS.out _ (by go_split_ands; assumption)) B1.out B2.out (fun x hx => absurd hx (by simp)) (fun x hx => absurd hx (by simp)))).mono ?_; rintro e w14 ⟨rfl, hw14⟩; try go_wp2_with fail)
            refine hK.out _ _ ?hS11 (fun hHeld => ?_)
            case hS11 => (go_split_ands; (repeat' apply And.intro) <;> (first | assumption | exact pw_cell_below (by assumption) (by assumption) | exact below_step (by assumption) (by assumption) | exact below_drew1 (by assumption)))
            clear hK K
            try simp only [Act.put, List.setIfInBounds_toArray, List.set_cons_zero, List.set_cons_succ]
            refine wpAnyH_take (i := 10) (oi := { dst := some 76, op := _, type := _, pos := _, after := _, guard := _ }) (v := ?v12) rfl (by kernel_rfl) (by kernel_rfl) (by kernel_rfl) (fun _ _ _ h => h) (Or.inl ⟨by rfl, ?hy12⟩) (by assumption) ?r12
            case hy12 => (intro w hSw; (try dsimp only at hSw); first | (go_simp; done) | (go_simp; with_reducible rfl))
            try simp only [Act.put, List.setIfInBounds_toArray, List.set_cons_zero, List.set_cons_succ]
            refine wpAnyH_take (i := 11) (oi := { dst := some 77, op := _, type := _, pos := _, after := _, guard := _ }) (v := undef) rfl (by kernel_rfl) (by kernel_rfl) (by kernel_rfl) (fun _ _ _ h => h) (Or.inr ⟨by rfl, rfl⟩) (by assumption) ?r13
            try simp only [Act.put, List.setIfInBounds_toArray, List.set_cons_zero, List.set_cons_succ]
            refine wpAnyH_take (i := 12) (oi := { dst := some 78, op := _, type := _, pos := _, after := _, guard := _ }) (v := undef) rfl (by kernel_rfl) (by kernel_rfl) (by kernel_rfl) (fun _ _ _ h => h) (Or.inr ⟨by rfl, rfl⟩) (by assumption) ?r14
            try simp only [Act.put, List.setIfInBounds_toArray, List.set_cons_zero, List.set_cons_succ]
            refine wpAnyH_take (i := 13) (oi := { dst := some 79, op := _, type := _, pos := _, after := _, guard := _ }) (v := undef) rfl (by kernel_rfl) (by kernel_rfl) (by kernel_rfl) (fun _ _ _ h => h) (Or.inr ⟨by rfl, rfl⟩) (by assumption) ?r15
            try simp only [Act.put, List.setIfInBounds_toArray, List.set_cons_zero, List.set_cons_succ]
            refine wpAnyH_take (i := 14) (oi := { dst := some 80, op := _, type := _, pos := _, after := _, guard := _ }) (v := undef) rfl (by kernel_rfl) (by kernel_rfl) (by kernel_rfl) (fun _ _ _ h => h) (Or.inr ⟨by rfl, rfl⟩) (by assumption) ?r16
            try simp only [Act.put, List.setIfInBounds_toArray, List.set_cons_zero, List.set_cons_succ]
            refine wpAnyH_take (i := 15) (oi := { dst := some 81, op := _, type := _, pos := _, after := _, guard := _ }) (v := undef) rfl (by kernel_rfl) (by kernel_rfl) (by kernel_rfl) (fun _ _ _ h => h) (Or.inr ⟨by rfl, rfl⟩) (by assumption) ?r17
            try simp only [Act.put, List.setIfInBounds_toArray, List.set_cons_zero, List.set_cons_succ]
            refine wpAnyH_take (i := 16) (oi := { dst := some 82, op := _, type := _, pos := _, after := _, guard := _ }) (v := ?v18) rfl (by kernel_rfl) (by kernel_rfl) (by kernel_rfl) (fun _ _ _ h => h) (Or.inl ⟨by rfl, ?hy18⟩) (by assumption) ?r18
            case hy18 => (intro w hSw; (try dsimp only at hSw); first | (go_simp; done) | (go_simp; with_reducible rfl))
            try simp only [Act.put, List.setIfInBounds_toArray, List.set_cons_zero, List.set_cons_succ]
            refine wpAnyH_take (i := 17) (oi := { dst := some 83, op := _, type := _, pos := _, after := _, guard := _ }) (v := ?v19) rfl (by kernel_rfl) (by kernel_rfl) (by kernel_rfl) (fun _ _ _ h => h) (Or.inl ⟨by rfl, ?hy19⟩) (by assumption) ?r19
            case hy19 => (intro w hSw; (try dsimp only at hSw); first | (go_simp; done) | (go_simp; with_reducible rfl))
            try simp only [Act.put, List.setIfInBounds_toArray, List.set_cons_zero, List.set_cons_succ]
            refine wpAnyH_take (i := 18) (oi := { dst := some 84, op := _, type := _, pos := _, after := _, guard := _ }) (v := ?v20) rfl (by kernel_rfl) (by kernel_rfl) (by kernel_rfl) (fun _ _ _ h => h) (Or.inl ⟨by rfl, ?hy20⟩) (by assumption) ?r20
            case hy20 => (intro w hSw; (try dsimp only at hSw); first | (go_simp; done) | (go_simp; with_reducible rfl))
            try simp only [Act.put, List.setIfInBounds_toArray, List.set_cons_zero, List.set_cons_succ]
            refine wpAnyH_ready (rs := [19]) (by kernel_rfl) (by simp) ?_
            refine AllReadyH.cons (o := { dst := some 85, op := _, type := _, pos := _, after := _, guard := _ }) rfl (fun K hK => ?_) AllReadyH.nil
            go_simp
            (go_at_call 7; refine (alive20 _ (HM.out.below (by go_split_ands; assumption))).mono ?_; rintro e w14 ⟨rfl, hw14⟩; try go_wp2_with fail)
            refine hK.out _ _ ?hS21 (fun hHeld => ?_)
            case hS21 => (go_split_ands; (repeat' apply And.intro) <;> (first | assumption | exact pw_cell_below (by assumption) (by assumption) | exact below_step (by assumption) (by assumption) | exact below_drew1 (by assumption)))
            clear hK K
            try simp only [Act.put, List.setIfInBounds_toArray, List.set_cons_zero, List.set_cons_succ]
            refine wpAnyH_take (i := 20) (oi := { dst := some 86, op := _, type := _, pos := _, after := _, guard := _ }) (v := ?v22) rfl (by kernel_rfl) (by kernel_rfl) (by kernel_rfl) (fun _ _ _ h => h) (Or.inl ⟨by rfl, ?hy22⟩) (by assumption) ?r22
            case hy22 => (intro w hSw; (try dsimp only at hSw); first | (go_simp; done) | (go_simp; with_reducible rfl))
            try simp only [Act.put, List.setIfInBounds_toArray, List.set_cons_zero, List.set_cons_succ]
            refine wpAnyH_take (i := 21) (oi := { dst := some 6, op := _, type := _, pos := _, after := _, guard := _ }) (v := ?v23) rfl (by kernel_rfl) (by kernel_rfl) (by kernel_rfl) (fun _ _ _ h => h) (Or.inl ⟨by rfl, ?hy23⟩) (by assumption) ?r23
            case hy23 => (intro w hSw; (try dsimp only at hSw); first | (go_simp; done) | (go_simp; with_reducible rfl))
            try simp only [Act.put, List.setIfInBounds_toArray, List.set_cons_zero, List.set_cons_succ]
            refine wpAnyH_done (by kernel_rfl) ?_ _
            go_wp2
            go_ret
            exact ⟨rfl, by go_split_ands; assumption⟩
          | true =>
            have hbel := HW13.out
            refine wp_region_held_drew (S := fun w' => w'.cell? ⟨g10, 0, none⟩ = some (.string a.f0.f0) ∧ w'.cell? ⟨g10, 1, none⟩ = some (.bool true) ∧ w'.cell? ⟨g10, 2, none⟩ = some (.bool false) ∧ w'.cell? ⟨g10, 3, none⟩ = some (.slice none 0 0) ∧ w'.cell? ⟨g10, 4, none⟩ = some (.slice none 0 0) ∧ w'.cell? ⟨g10, 5, none⟩ = some (.slice none 0 0) ∧ w'.cell? ⟨g10, 6, none⟩ = some (.slice none 0 0) ∧ w'.cell? ⟨g0, 7, none⟩ = some (.int .u16 a.f1.f0) ∧ w'.cell? ⟨g0, 8, none⟩ = some (.int .i64 a.f1.f1) ∧ w'.cell? ⟨g0, 9, none⟩ = some (.slice A2 a.f1.f2.length c2) ∧ w'.cell? ⟨g0, 10, none⟩ = some (.int .i64 a.f1.f3) ∧ w'.cell? ⟨g0, 11, none⟩ = some (.string a.f1.f4) ∧ w'.cell? ⟨g0, 12, none⟩ = some (.int .i64 a.f1.f5) ∧ w'.cell? ⟨g0, 13, none⟩ = some (.int .i64 a.f1.f6) ∧ w'.cell? ⟨g0, 14, none⟩ = some (.bool true) ∧ w'.cell? ⟨g0, 15, none⟩ = some (.string a.f3) ∧ Below w.heap.size w w') (by kernel_rfl) ?hS24 (fun hHeld => ?_)
            case hS24 => (go_split_ands; (repeat' apply And.intro) <;> (first | assumption | exact pw_cell_below (by assumption) (by assumption) | exact below_step (by assumption) (by assumption) | exact below_drew1 (by assumption)))
            refine wpAnyH_take (i := 0) (oi := { dst := some 66, op := _, type := _, pos := _, after := _, guard := _ }) (v := ?v25) rfl (by kernel_rfl) (by kernel_rfl) (by kernel_rfl) (fun _ _ _ h => h) (Or.inl ⟨by rfl, ?hy25⟩) (by assumption) ?r25
            case hy25 => (intro w hSw; (try dsimp only at hSw); first | (go_simp; done) | (go_simp; with_reducible rfl))
            try simp only [Act.put, List.setIfInBounds_toArray, List.set_cons_zero, List.set_cons_succ]
            refine wpAnyH_take (i := 1) (oi := { dst := some 67, op := _, type := _, pos := _, after := _, guard := _ }) (v := ?v26) rfl (by kernel_rfl) (by kernel_rfl) (by kernel_rfl) (fun _ _ _ h => h) (Or.inl ⟨by rfl, ?hy26⟩) (by assumption) ?r26
            case hy26 => (intro w hSw; (try dsimp only at hSw); first | (go_simp; done) | (go_simp; with_reducible rfl))
            try simp only [Act.put, List.setIfInBounds_toArray, List.set_cons_zero, List.set_cons_succ]
            refine wpAnyH_take (i := 2) (oi := { dst := some 68, op := _, type := _, pos := _, after := _, guard := _ }) (v := ?v27) rfl (by kernel_rfl) (by kernel_rfl) (by kernel_rfl) (fun _ _ _ h => h) (Or.inl ⟨by rfl, ?hy27⟩) (by assumption) ?r27
            case hy27 => (intro w hSw; (try dsimp only at hSw); first | (go_simp; done) | (go_simp; with_reducible rfl))
            try simp only [Act.put, List.setIfInBounds_toArray, List.set_cons_zero, List.set_cons_succ]
            refine wpAnyH_take (i := 3) (oi := { dst := some 69, op := _, type := _, pos := _, after := _, guard := _ }) (v := ?v28) rfl (by kernel_rfl) (by kernel_rfl) (by kernel_rfl) (fun _ _ _ h => h) (Or.inl ⟨by rfl, ?hy28⟩) (by assumption) ?r28
            case hy28 => (intro w hSw; (try dsimp only at hSw); first | (go_simp; done) | (go_simp; with_reducible rfl))
            try simp only [Act.put, List.setIfInBounds_toArray, List.set_cons_zero, List.set_cons_succ]
            refine wpAnyH_take (i := 4) (oi := { dst := some 70, op := _, type := _, pos := _, after := _, guard := _ }) (v := ?v29) rfl (by kernel_rfl) (by kernel_rfl) (by kernel_rfl) (fun _ _ _ h => h) (Or.inl ⟨by rfl, ?hy29⟩) (by assumption) ?r29
            case hy29 => (intro w hSw; (try dsimp only at hSw); first | (go_simp; done) | (go_simp; with_reducible rfl))
            try simp only [Act.put, List.setIfInBounds_toArray, List.set_cons_zero, List.set_cons_succ]
            refine wpAnyH_take (i := 5) (oi := { dst := some 71, op := _, type := _, pos := _, after := _, guard := _ }) (v := ?v30) rfl (by kernel_rfl) (by kernel_rfl) (by kernel_rfl) (fun _ _ _ h => h) (Or.inl ⟨by rfl, ?hy30⟩) (by assumption) ?r30
            case hy30 => (intro w hSw; (try dsimp only at hSw); first | (go_simp; done) | (go_simp; with_reducible rfl))
            try simp only [Act.put, List.setIfInBounds_toArray, List.set_cons_zero, List.set_cons_succ]
            refine wpAnyH_take (i := 6) (oi := { dst := some 72, op := _, type := _, pos := _, after := _, guard := _ }) (v := ?v31) rfl (by kernel_rfl) (by kernel_rfl) (by kernel_rfl) (fun _ _ _ h => h) (Or.inl ⟨by rfl, ?hy31⟩) (by assumption) ?r31
            case hy31 => (intro w hSw; (try dsimp only at hSw); first | (go_simp; done) | (go_simp; with_reducible rfl))
            try simp only [Act.put, List.setIfInBounds_toArray, List.set_cons_zero, List.set_cons_succ]
            refine wpAnyH_take (i := 8) (oi := { dst := some 74, op := _, type := _, pos := _, after := _, guard := _ }) (v := ?v32) rfl (by kernel_rfl) (by kernel_rfl) (by kernel_rfl) (fun _ _ _ h => h) (Or.inl ⟨by rfl, ?hy32⟩) (by assumption) ?r32
            case hy32 => (intro w hSw; (try dsimp only at hSw); first | (go_simp; done) | (go_simp; with_reducible rfl))
            try simp only [Act.put, List.setIfInBounds_toArray, List.set_cons_zero, List.set_cons_succ]
            refine wpAnyH_take (i := 9) (oi := { dst := some 75, op := _, type := _, pos := _, after := _, guard := _ }) (v := ?v33) rfl (by kernel_rfl) (by kernel_rfl) (by kernel_rfl) (fun _ _ _ h => h) (Or.inl ⟨by rfl, ?hy33⟩) (by assumption) ?r33
            case hy33 => (intro w hSw; (try dsimp only at hSw); first | (go_simp; done) | (go_simp; with_reducible rfl))
            try simp only [Act.put, List.setIfInBounds_toArray, List.set_cons_zero, List.set_cons_succ]
            refine wpAnyH_ready (rs := [7]) (by kernel_rfl) (by simp) ?_
            refine AllReadyH.cons (o := { dst := some 73, op := _, type := _, pos := _, after := _, guard := _ }) rfl (fun K hK => ?_) AllReadyH.nil
            go_simp
            (go_at_call 9; refine (as_bool ((acc_bare true _ _).trans (by rw [← HG.out]; rfl : (true && _) = G)) (acc_K _ a.f1 _ _ true a.f3 _ (HM.out.below (by go_split_ands; assumption)) (KB.out _ (by go_split_ands; assumption)) (KS.out _ (by go_split_ands; assumption)) B1.out B2.out (fun x hx => absurd hx (by simp)) (fun x hx => absurd hx (by simp)))).mono ?_; rintro e w14 ⟨rfl, hw14⟩; try go_wp2_with fail)
            refine hK.out _ _ ?hS34 (fun hHeld => ?_)
            case hS34 => (go_split_ands; (repeat' apply And.intro) <;> (first | assumption | exact pw_cell_below (by assumption) (by assumption) | exact below_step (by assumption) (by assumption) | exact below_drew1 (by assumption)))
            clear hK K
            try simp only [Act.put, List.setIfInBounds_toArray, List.set_cons_zero, List.set_cons_succ]
            refine wpAnyH_take (i := 10) (oi := { dst := some 76, op := _, type := _, pos := _, after := _, guard := _ }) (v := ?v35) rfl (by kernel_rfl) (by kernel_rfl) (by kernel_rfl) (fun _ _ _ h => h) (Or.inl ⟨by rfl, ?hy35⟩) (by assumption) ?r35
            case hy35 => (intro w hSw; (try dsimp only at hSw); first | (go_simp; done) | (go_simp; with_reducible rfl))
            try simp only [Act.put, List.setIfInBounds_toArray, List.set_cons_zero, List.set_cons_succ]
            refine wpAnyH_take (i := 11) (oi := { dst := some 77, op := _, type := _, pos := _, after := _, guard := _ }) (v := ?v36) rfl (by kernel_rfl) (by kernel_rfl) (by kernel_rfl) (fun _ _ _ h => h) (Or.inl ⟨by rfl, ?hy36⟩) (by assumption) ?r36
            case hy36 => (intro w hSw; (try dsimp only at hSw); first | (go_simp; done) | (go_simp; with_reducible rfl))
            try simp only [Act.put, List.setIfInBounds_toArray, List.set_cons_zero, List.set_cons_succ]
            refine wpAnyH_take (i := 12) (oi := { dst := some 78, op := _, type := _, pos := _, after := _, guard := _ }) (v := ?v37) rfl (by kernel_rfl) (by kernel_rfl) (by kernel_rfl) (fun _ _ _ h => h) (Or.inl ⟨by rfl, ?hy37⟩) (by assumption) ?r37
            case hy37 => (intro w hSw; (try dsimp only at hSw); first | (go_simp; done) | (go_simp; with_reducible rfl))
            try simp only [Act.put, List.setIfInBounds_toArray, List.set_cons_zero, List.set_cons_succ]
            refine wpAnyH_take (i := 13) (oi := { dst := some 79, op := _, type := _, pos := _, after := _, guard := _ }) (v := ?v38) rfl (by kernel_rfl) (by kernel_rfl) (by kernel_rfl) (fun _ _ _ h => h) (Or.inl ⟨by rfl, ?hy38⟩) (by assumption) ?r38
            case hy38 => (intro w hSw; (try dsimp only at hSw); first | (go_simp; done) | (go_simp; with_reducible rfl))
            try simp only [Act.put, List.setIfInBounds_toArray, List.set_cons_zero, List.set_cons_succ]
            refine wpAnyH_take (i := 14) (oi := { dst := some 80, op := _, type := _, pos := _, after := _, guard := _ }) (v := ?v39) rfl (by kernel_rfl) (by kernel_rfl) (by kernel_rfl) (fun _ _ _ h => h) (Or.inl ⟨by rfl, ?hy39⟩) (by assumption) ?r39
            case hy39 => (intro w hSw; (try dsimp only at hSw); first | (go_simp; done) | (go_simp; with_reducible rfl))
            try simp only [Act.put, List.setIfInBounds_toArray, List.set_cons_zero, List.set_cons_succ]
            refine wpAnyH_ready (rs := [15]) (by kernel_rfl) (by simp) ?_
            refine AllReadyH.cons (o := { dst := some 81, op := _, type := _, pos := _, after := _, guard := _ }) rfl (fun K hK => ?_) AllReadyH.nil
            go_simp
            (go_at_call 10; refine (as_bool HG.out.symm (grey_K a.f1 _ a.f3 _ (HM.out.below (by go_split_ands; assumption)) (KS.out _ (by go_split_ands; assumption)) B1.out B2.out)).mono ?_; rintro e w14 ⟨rfl, hw14⟩; try go_wp2_with fail)
            refine hK.out _ _ ?hS40 (fun hHeld => ?_)
            case hS40 => (go_split_ands; (repeat' apply And.intro) <;> (first | assumption | exact pw_cell_below (by assumption) (by assumption) | exact below_step (by assumption) (by assumption) | exact below_drew1 (by assumption)))
            clear hK K
            try simp only [Act.put, List.setIfInBounds_toArray, List.set_cons_zero, List.set_cons_succ]
            refine wpAnyH_take (i := 16) (oi := { dst := some 82, op := _, type := _, pos := _, after := _, guard := _ }) (v := ?v41) rfl (by kernel_rfl) (by kernel_rfl) (by kernel_rfl) (fun _ _ _ h => h) (Or.inl ⟨by rfl, ?hy41⟩) (by assumption) ?r41
            case hy41 => (intro w hSw; (try dsimp only at hSw); first | (go_simp; done) | (go_simp; with_reducible rfl))
            try simp only [Act.put, List.setIfInBounds_toArray, List.set_cons_zero, List.set_cons_succ]
            refine wpAnyH_take (i := 17) (oi := { dst := some 83, op := _, type := _, pos := _, after := _, guard := _ }) (v := ?v42) rfl (by kernel_rfl) (by kernel_rfl) (by kernel_rfl) (fun _ _ _ h => h) (Or.inl ⟨by rfl, ?hy42⟩) (by assumption) ?r42
            case hy42 => (intro w hSw; (try dsimp only at hSw); first | (go_simp; done) | (go_simp; with_reducible rfl))
            try simp only [Act.put, List.setIfInBounds_toArray, List.set_cons_zero, List.set_cons_succ]
            refine wpAnyH_take (i := 18) (oi := { dst := some 84, op := _, type := _, pos := _, after := _, guard := _ }) (v := ?v43) rfl (by kernel_rfl) (by kernel_rfl) (by kernel_rfl) (fun _ _ _ h => h) (Or.inl ⟨by rfl, ?hy43⟩) (by assumption) ?r43
            case hy43 => (intro w hSw; (try dsimp only at hSw); first | (go_simp; done) | (go_simp; with_reducible rfl))
            try simp only [Act.put, List.setIfInBounds_toArray, List.set_cons_zero, List.set_cons_succ]
            refine wpAnyH_ready (rs := [19]) (by kernel_rfl) (by simp) ?_
            refine AllReadyH.cons (o := { dst := some 85, op := _, type := _, pos := _, after := _, guard := _ }) rfl (fun K hK => ?_) AllReadyH.nil
            go_simp
            (go_at_call 7; refine (alive20 _ (HM.out.below (by go_split_ands; assumption))).mono ?_; rintro e w14 ⟨rfl, hw14⟩; try go_wp2_with fail)
            refine hK.out _ _ ?hS44 (fun hHeld => ?_)
            case hS44 => (go_split_ands; (repeat' apply And.intro) <;> (first | assumption | exact pw_cell_below (by assumption) (by assumption) | exact below_step (by assumption) (by assumption) | exact below_drew1 (by assumption)))
            clear hK K
            try simp only [Act.put, List.setIfInBounds_toArray, List.set_cons_zero, List.set_cons_succ]
            refine wpAnyH_take (i := 20) (oi := { dst := some 86, op := _, type := _, pos := _, after := _, guard := _ }) (v := ?v45) rfl (by kernel_rfl) (by kernel_rfl) (by kernel_rfl) (fun _ _ _ h => h) (Or.inl ⟨by rfl, ?hy45⟩) (by assumption) ?r45
            case hy45 => (intro w hSw; (try dsimp only at hSw); first | (go_simp; done) | (go_simp; with_reducible rfl))
            try simp only [Act.put, List.setIfInBounds_toArray, List.set_cons_zero, List.set_cons_succ]
            refine wpAnyH_take (i := 21) (oi := { dst := some 6, op := _, type := _, pos := _, after := _, guard := _ }) (v := ?v46) rfl (by kernel_rfl) (by kernel_rfl) (by kernel_rfl) (fun _ _ _ h => h) (Or.inl ⟨by rfl, ?hy46⟩) (by assumption) ?r46
            case hy46 => (intro w hSw; (try dsimp only at hSw); first | (go_simp; done) | (go_simp; with_reducible rfl))
            try simp only [Act.put, List.setIfInBounds_toArray, List.set_cons_zero, List.set_cons_succ]
            refine wpAnyH_done (by kernel_rfl) ?_ _
            go_wp2
            go_ret
            exact ⟨rfl, by go_split_ands; assumption⟩
        next =>
          obtain ⟨G, hG⟩ : ∃ G, G = polGrey a.f1.f1 a.f1.f3 a.f1.f2 a.f1.f4 a.f3 := ⟨_, rfl⟩
          have HG := Lib.hid hG
          clear hG
          have eqG : (G == G) = true := by simp
          have MB : Hid (k25.K w13 (⟨a.f0.f0, true, false, [], [], [], []⟩ : S25) #[.string a.f0.f0, .bool true, .bool false, .slice none 0 0, .slice none 0 0, .slice none 0 0, .slice none 0 0].toList) := bare_K w13 a.f0.f0
          have KB := Lib.hid (fun W' (h : Below w.heap.size w W') => bare_K W' a.f0.f0)
          have KS := Lib.hid (fun W' (h : Below w.heap.size w W') => k28.K_below h HSTL.out)
          have d_g10_0 := cell_blk HX13.out (j := 0) rfl
          have d_g10_1 := cell_blk HX13.out (j := 1) rfl
          have d_g10_2 := cell_blk HX13.out (j := 2) rfl
          have d_g10_3 := cell_blk HX13.out (j := 3) rfl
          have d_g10_4 := cell_blk HX13.out (j := 4) rfl
          have d_g10_5 := cell_blk HX13.out (j := 5) rfl
          have d_g10_6 := cell_blk HX13.out (j := 6) rfl
          have d_g0_7 := cell_blk HA13.out (j := 7) E7.out
          have d_g0_8 := cell_blk HA13.out (j := 8) E8.out
          have d_g0_9 := cell_blk HA13.out (j := 9) E9.out
          have d_g0_10 := cell_blk HA13.out (j := 10) E10.out
          have d_g0_11 := cell_blk HA13.out (j := 11) E11.out
          have d_g0_12 := cell_blk HA13.out (j := 12) E12.out
          have d_g0_13 := cell_blk HA13.out (j := 13) E13.out
          have d_g0_14 := cell_blk HA13.out (j := 14) E14.out
          have d_g0_15 := cell_blk HA13.out (j := 15) E15.out
          cases first with
          | false =>
            have hbel := HW13.out
            refine wp_region_held_drew (S := fun w' => w'.cell? ⟨g10, 0, none⟩ = some (.string a.f0.f0) ∧ w'.cell? ⟨g10, 1, none⟩ = some (.bool true) ∧ w'.cell? ⟨g10, 2, none⟩ = some (.bool false) ∧ w'.cell? ⟨g10, 3, none⟩ = some (.slice none 0 0) ∧ w'.cell? ⟨g10, 4, none⟩ = some (.slice none 0 0) ∧ w'.cell? ⟨g10, 5, none⟩ = some (.slice none 0 0) ∧ w'.cell? ⟨g10, 6, none⟩ = some (.slice none 0 0) ∧ w'.cell? ⟨g0, 7, none⟩ = some (.int .u16 a.f1.f0) ∧ w'.cell? ⟨g0, 8, none⟩ = some (.int .i64 a.f1.f1) ∧ w'.cell? ⟨g0, 9, none⟩ = some (.slice A2 a.f1.f2.length c2) ∧ w'.cell? ⟨g0, 10, none⟩ = some (.int .i64 a.f1.f3) ∧ w'.cell? ⟨g0, 11, none⟩ = some (.string a.f1.f4) ∧ w'.cell? ⟨g0, 12, none⟩ = some (.int .i64 a.f1.f5) ∧ w'.cell? ⟨g0, 13, none⟩ = some (.int .i64 a.f1.f6) ∧ w'.cell? ⟨g0, 14, none⟩ = some (.bool false) ∧ w'.cell? ⟨g0, 15, none⟩ = some (.string a.f3) ∧ Below w.heap.size w w') (by kernel_rfl) ?hS47 (fun hHeld => ?_)
            case hS47 => (go_split_ands; (repeat' apply And.intro) <;> (first | assumption | exact pw_cell_below (by assumption) (by assumption) | exact below_step (by assumption) (by assumption) | exact below_drew1 (by assumption)))
            refine wpAnyH_take (i := 0) (oi := { dst := some 66, op := _, type := _, pos := _, after := _, guard := _ }) (v := ?v48) rfl (by kernel_rfl) (by kernel_rfl) (by kernel_rfl) (fun _ _ _ h => h) (Or.inl ⟨by rfl, ?hy48⟩) (by assumption) ?r48
            case hy48 => (intro w hSw; (try dsimp only at hSw); first | (go_simp; done) | (go_simp; with_reducible rfl))
            try simp only [Act.put, List.setIfInBounds_toArray, List.set_cons_zero, List.set_cons_succ]
            refine wpAnyH_take (i := 1) (oi := { dst := some 67, op := _, type := _, pos := _, after := _, guard := _ }) (v := ?v49) rfl (by kernel_rfl) (by kernel_rfl) (by kernel_rfl) (fun _ _ _ h => h) (Or.inl ⟨by rfl, ?hy49⟩) (by assumption) ?r49
            case hy49 => (intro w hSw; (try dsimp only at hSw); first | (go_simp; done) | (go_simp; with_reducible rfl))
            try simp only [Act.put, List.setIfInBounds_toArray, List.set_cons_zero, List.set_cons_succ]
            refine wpAnyH_take (i := 2) (oi := { dst := some 68, op := _, type := _, pos := _, after := _, guard := _ }) (v := ?v50) rfl (by kernel_rfl) (by kernel_rfl) (by kernel_rfl) (fun _ _ _ h => h) (Or.inl ⟨by rfl, ?hy50⟩) (by assumption) ?r50
            case hy50 => (intro w hSw; (try dsimp only at hSw); first | (go_simp; done) | (go_simp; with_reducible rfl))
            try simp only [Act.put, List.setIfInBounds_toArray, List.set_cons_zero, List.set_cons_succ]
            refine wpAnyH_take (i := 3) (oi := { dst := some 69, op := _, type := _, pos := _, after := _, guard := _ }) (v := ?v51) rfl (by kernel_rfl) (by kernel_rfl) (by kernel_rfl) (fun _ _ _ h => h) (Or.inl ⟨by rfl, ?hy51⟩) (by assumption) ?r51
            case hy51 => (intro w hSw; (try dsimp only at hSw); first | (go_simp; done) | (go_simp; with_reducible rfl))
            try simp only [Act.put, List.setIfInBounds_toArray, List.set_cons_zero, List.set_cons_succ]
            refine wpAnyH_take (i := 4) (oi := { dst := some 70, op := _, type := _, pos := _, after := _, guard := _ }) (v := ?v52) rfl (by kernel_rfl) (by kernel_rfl) (by kernel_rfl) (fun _ _ _ h => h) (Or.inl ⟨by rfl, ?hy52⟩) (by assumption) ?r52
            case hy52 => (intro w hSw; (try dsimp only at hSw); first | (go_simp; done) | (go_simp; with_reducible rfl))
            try simp only [Act.put, List.setIfInBounds_toArray, List.set_cons_zero, List.set_cons_succ]
            refine wpAnyH_take (i := 5) (oi := { dst := some 71, op := _, type := _, pos := _, after := _, guard := _ }) (v := ?v53) rfl (by kernel_rfl) (by kernel_rfl) (by kernel_rfl) (fun _ _ _ h => h) (Or.inl ⟨by rfl, ?hy53⟩) (by assumption) ?r53
            case hy53 => (intro w hSw; (try dsimp only at hSw); first | (go_simp; done) | (go_simp; with_reducible rfl))
            try simp only [Act.put, List.setIfInBounds_toArray, List.set_cons_zero, List.set_cons_succ]
            refine wpAnyH_take (i := 6) (oi := { dst := some 72, op := _, type := _, pos := _, after := _, guard := _ }) (v := ?v54) rfl (by kernel_rfl) (by kernel_rfl) (by kernel_rfl) (fun _ _ _ h => h) (Or.inl ⟨by rfl, ?hy54⟩) (by assumption) ?r54
            case hy54 => (intro w hSw; (try dsimp only at hSw); first | (go_simp; done) | (go_simp; with_reducible rfl))
            try simp only [Act.put, List.setIfInBounds_toArray, List.set_cons_zero, List.set_cons_succ]
            refine wpAnyH_take (i := 8) (oi := { dst := some 74, op := _, type := _, pos := _, after := _, guard := _ }) (v := ?v55) rfl (by kernel_rfl) (by kernel_rfl) (by kernel_rfl) (fun _ _ _ h => h) (Or.inl ⟨by rfl, ?hy55⟩) (by assumption) ?r55
            case hy55 => (intro w hSw; (try dsimp only at hSw); first | (go_simp; done) | (go_simp; with_reducible rfl))
            try simp only [Act.put, List.setIfInBounds_toArray, List.set_cons_zero, List.set_cons_succ]
            refine wpAnyH_take (i := 9) (oi := { dst := some 75, op := _, type := _, pos := _, after := _, guard := _ }) (v := ?v56) rfl (by kernel_rfl) (by kernel_rfl) (by kernel_rfl) (fun _ _ _ h => h) (Or.inl ⟨by rfl, ?hy56⟩) (by assumption) ?r56
            case hy56 => (intro w hSw; (try dsimp only at hSw); first | (go_simp; done) | (go_simp; with_reducible rfl))
            try simp only [Act.put, List.setIfInBounds_toArray, List.set_cons_zero, List.set_cons_succ]
            refine wpAnyH_ready (rs := [7]) (by kernel_rfl) (by simp) ?_
            refine AllReadyH.cons (o := { dst := some 73, op := _, type := _, pos := _, after := _, guard := _ }) rfl (fun K hK => ?_) AllReadyH.nil
            go_simp
            (go_at_call 9; refine (as_bool ((acc_bare false _ _).trans (rfl : (false && _) = false)) (acc_K _ a.f1 _ _ false a.f3 _ (HM.out.below (by go_split_ands; assumption)) (KB.out _ (by go_split_ands; assumption)) (KS.out _ (by go_split_ands; assumption)) B1.out B2.out (fun x hx => absurd hx (by simp)) (fun x hx => absurd hx (by simp)))).mono ?_; rintro e w14 ⟨rfl, hw14⟩; try go_wp2_with fail)
            refine hK.out _ _ ?hS57 (fun hHeld => ?_)
            case hS57 => (go_split_ands; (repeat' apply And.intro) <;> (first | assumption | exact pw_cell_below (by assumption) (by assumption) | exact below_step (by assumption) (by assumption) | exact below_drew1 (by assumption)))
            clear hK K
            try simp only [Act.put, List.setIfInBounds_toArray, List.set_cons_zero, List.set_cons_succ]
            refine wpAnyH_take (i := 10) (oi := { dst := some 76, op := _, type := _, pos := _, after := _, guard := _ }) (v := ?v58) rfl (by kernel_rfl) (by kernel_rfl) (by kernel_rfl) (fun _ _ _ h => h) (Or.inl ⟨by rfl, ?hy58⟩) (by assumption) ?r58
            case hy58 => (intro w hSw; (try dsimp only at hSw); first | (go_simp; done) | (go_simp; with_reducible rfl))
            try simp only [Act.put, List.setIfInBounds_toArray, List.set_cons_zero, List.set_cons_succ]
            refine wpAnyH_take (i := 11) (oi := { dst := some 77, op := _, type := _, pos := _, after := _, guard := _ }) (v := undef) rfl (by kernel_rfl) (by kernel_rfl) (by kernel_rfl) (fun _ _ _ h => h) (Or.inr ⟨by rfl, rfl⟩) (by assumption) ?r59
            try simp only [Act.put, List.setIfInBounds_toArray, List.set_cons_zero, List.set_cons_succ]
            refine wpAnyH_take (i := 12) (oi := { dst := some 78, op := _, type := _, pos := _, after := _, guard := _ }) (v := undef) rfl (by kernel_rfl) (by kernel_rfl) (by kernel_rfl) (fun _ _ _ h => h) (Or.inr ⟨by rfl, rfl⟩) (by assumption) ?r60
            try simp only [Act.put, List.setIfInBounds_toArray, List.set_cons_zero, List.set_cons_succ]
            refine wpAnyH_take (i := 13) (oi := { dst := some 79, op := _, type := _, pos := _, after := _, guard := _ }) (v := undef) rfl (by kernel_rfl) (by kernel_rfl) (by kernel_rfl) (fun _ _ _ h => h) (Or.inr ⟨by rfl, rfl⟩) (by assumption) ?r61
            try simp only [Act.put, List.setIfInBounds_toArray, List.set_cons_zero, List.set_cons_succ]
            refine wpAnyH_take (i := 14) (oi := { dst := some 80, op := _, type := _, pos := _, after := _, guard := _ }) (v := undef) rfl (by kernel_rfl) (by kernel_rfl) (by kernel_rfl) (fun _ _ _ h => h) (Or.inr ⟨by rfl, rfl⟩) (by assumption) ?r62
            try simp only [Act.put, List.setIfInBounds_toArray, List.set_cons_zero, List.set_cons_succ]
            refine wpAnyH_take (i := 15) (oi := { dst := some 81, op := _, type := _, pos := _, after := _, guard := _ }) (v := undef) rfl (by kernel_rfl) (by kernel_rfl) (by kernel_rfl) (fun _ _ _ h => h) (Or.inr ⟨by rfl, rfl⟩) (by assumption) ?r63
            try simp only [Act.put, List.setIfInBounds_toArray, List.set_cons_zero, List.set_cons_succ]
            refine wpAnyH_take (i := 16) (oi := { dst := some 82, op := _, type := _, pos := _, after := _, guard := _ }) (v := ?v64) rfl (by kernel_rfl) (by kernel_rfl) (by kernel_rfl) (fun _ _ _ h => h) (Or.inl ⟨by rfl, ?hy64⟩) (by assumption) ?r64
            case hy64 => (intro w hSw; (try dsimp only at hSw); first | (go_simp; done) | (go_simp; with_reducible rfl))
            try simp only [Act.put, List.setIfInBounds_toArray, List.set_cons_zero, List.set_cons_succ]
            refine wpAnyH_take (i := 17) (oi := { dst := some 83, op := _, type := _, pos := _, after := _, guard := _ }) (v := ?v65) rfl (by kernel_rfl) (by kernel_rfl) (by kernel_rfl) (fun _ _ _ h => h) (Or.inl ⟨by rfl, ?hy65⟩) (by assumption) ?r65
            case hy65 => (intro w hSw; (try dsimp only at hSw); first | (go_simp; done) | (go_simp; with_reducible rfl))
            try simp only [Act.put, List.setIfInBounds_toArray, List.set_cons_zero, List.set_cons_succ]
            refine wpAnyH_take (i := 18) (oi := { dst := some 84, op := _, type := _, pos := _, after := _, guard := _ }) (v := ?v66) rfl (by kernel_rfl) (by kernel_rfl) (by kernel_rfl) (fun _ _ _ h => h) (Or.inl ⟨by rfl, ?hy66⟩) (by assumption) ?r66
            case hy66 => (intro w hSw; (try dsimp only at hSw); first | (go_simp; done) | (go_simp; with_reducible rfl))
            try simp only [Act.put, List.setIfInBounds_toArray, List.set_cons_zero, List.set_cons_succ]
            refine wpAnyH_ready (rs := [19]) (by kernel_rfl) (by simp) ?_
            refine AllReadyH.cons (o := { dst := some 85, op := _, type := _, pos := _, after := _, guard := _ }) rfl (fun K hK => ?_) AllReadyH.nil
            go_simp
            (go_at_call 7; refine (alive20 _ (HM.out.below (by go_split_ands; assumption))).mono ?_; rintro e w14 ⟨rfl, hw14⟩; try go_wp2_with fail)
            refine hK.out _ _ ?hS67 (fun hHeld => ?_)
            case hS67 => (go_split_ands; (repeat' apply And.intro) <;> (first | assumption | exact pw_cell_below (by assumption) (by assumption) | exact below_step (by assumption) (by assumption) | exact below_drew1 (by assumption)))
            clear hK K
            try simp only [Act.put, List.setIfInBounds_toArray, List.set_cons_zero, List.set_cons_succ]
            refine wpAnyH_take (i := 20) (oi := { dst := some 86, op := _, type := _, pos := _, after := _, guard := _ }) (v := ?v68) rfl (by kernel_rfl) (by kernel_rfl) (by kernel_rfl) (fun _ _ _ h => h) (Or.inl ⟨by rfl, ?hy68⟩) (by assumption) ?r68
            case hy68 => (intro w hSw; (try dsimp only at hSw); first | (go_simp; done) | (go_simp; with_reducible rfl))
            try simp only [Act.put, List.setIfInBounds_toArray, List.set_cons_zero, List.set_cons_succ]
            refine wpAnyH_take (i := 21) (oi := { dst := some 6, op := _, type := _, pos := _, after := _, guard := _ }) (v := ?v69) rfl (by kernel_rfl) (by kernel_rfl) (by kernel_rfl) (fun _ _ _ h => h) (Or.inl ⟨by rfl, ?hy69⟩) (by assumption) ?r69
            case hy69 => (intro w hSw; (try dsimp only at hSw); first | (go_simp; done) | (go_simp; with_reducible rfl))
            try simp only [Act.put, List.setIfInBounds_toArray, List.set_cons_zero, List.set_cons_succ]
            refine wpAnyH_done (by kernel_rfl) ?_ _
            go_wp2
            go_ret
            exact ⟨rfl, by go_split_ands; assumption⟩
          | true =>
            have hbel := HW13.out
            refine wp_region_held_drew (S := fun w' => w'.cell? ⟨g10, 0, none⟩ = some (.string a.f0.f0) ∧ w'.cell? ⟨g10, 1, none⟩ = some (.bool true) ∧ w'.cell? ⟨g10, 2, none⟩ = some (.bool false) ∧ w'.cell? ⟨g10, 3, none⟩ = some (.slice none 0 0) ∧ w'.cell? ⟨g10, 4, none⟩ = some (.slice none 0 0) ∧ w'.cell? ⟨g10, 5, none⟩ = some (.slice none 0 0) ∧ w'.cell? ⟨g10, 6, none⟩ = some (.slice none 0 0) ∧ w'.cell? ⟨g0, 7, none⟩ = some (.int .u16 a.f1.f0) ∧ w'.cell? ⟨g0, 8, none⟩ = some (.int .i64 a.f1.f1) ∧ w'.cell? ⟨g0, 9, none⟩ = some (.slice A2 a.f1.f2.length c2) ∧ w'.cell? ⟨g0, 10, none⟩ = some (.int .i64 a.f1.f3) ∧ w'.cell? ⟨g0, 11, none⟩ = some (.string a.f1.f4) ∧ w'.cell? ⟨g0, 12, none⟩ = some (.int .i64 a.f1.f5) ∧ w'.cell? ⟨g0, 13, none⟩ = some (.int .i64 a.f1.f6) ∧ w'.cell? ⟨g0, 14, none⟩ = some (.bool true) ∧ w'.cell? ⟨g0, 15, none⟩ = some (.string a.f3) ∧ Below w.heap.size w w') (by kernel_rfl) ?hS70 (fun hHeld => ?_)
            case hS70 => (go_split_ands; (repeat' apply And.intro) <;> (first | assumption | exact pw_cell_below (by assumption) (by assumption) | exact below_step (by assumption) (by assumption) | exact below_drew1 (by assumption)))
            refine wpAnyH_take (i := 0) (oi := { dst := some 66, op := _, type := _, pos := _, after := _, guard := _ }) (v := ?v71) rfl (by kernel_rfl) (by kernel_rfl) (by kernel_rfl) (fun _ _ _ h => h) (Or.inl ⟨by rfl, ?hy71⟩) (by assumption) ?r71
            case hy71 => (intro w hSw; (try dsimp only at hSw); first | (go_simp; done) | (go_simp; with_reducible rfl))
            try simp only [Act.put, List.setIfInBounds_toArray, List.set_cons_zero, List.set_cons_succ]
            refine wpAnyH_take (i := 1) (oi := { dst := some 67, op := _, type := _, pos := _, after := _, guard := _ }) (v := ?v72) rfl (by kernel_rfl) (by kernel_rfl) (by kernel_rfl) (fun _ _ _ h => h) (Or.inl ⟨by rfl, ?hy72⟩) (by assumption) ?r72
            case hy72 => (intro w hSw; (try dsimp only at hSw); first | (go_simp; done) | (go_simp; with_reducible rfl))
            try simp only [Act.put, List.setIfInBounds_toArray, List.set_cons_zero, List.set_cons_succ]
            refine wpAnyH_take (i := 2) (oi := { dst := some 68, op := _, type := _, pos := _, after := _, guard := _ }) (v := ?v73) rfl (by kernel_rfl) (by kernel_rfl) (by kernel_rfl) (fun _ _ _ h => h) (Or.inl ⟨by rfl, ?hy73⟩) (by assumption) ?r73
            case hy73 => (intro w hSw; (try dsimp only at hSw); first | (go_simp; done) | (go_simp; with_reducible rfl))
            try simp only [Act.put, List.setIfInBounds_toArray, List.set_cons_zero, List.set_cons_succ]
            refine wpAnyH_take (i := 3) (oi := { dst := some 69, op := _, type := _, pos := _, after := _, guard := _ }) (v := ?v74) rfl (by kernel_rfl) (by kernel_rfl) (by kernel_rfl) (fun _ _ _ h => h) (Or.inl ⟨by rfl, ?hy74⟩) (by assumption) ?r74
            case hy74 => (intro w hSw; (try dsimp only at hSw); first | (go_simp; done) | (go_simp; with_reducible rfl))
            try simp only [Act.put, List.setIfInBounds_toArray, List.set_cons_zero, List.set_cons_succ]
            refine wpAnyH_take (i := 4) (oi := { dst := some 70, op := _, type := _, pos := _, after := _, guard := _ }) (v := ?v75) rfl (by kernel_rfl) (by kernel_rfl) (by kernel_rfl) (fun _ _ _ h => h) (Or.inl ⟨by rfl, ?hy75⟩) (by assumption) ?r75
            case hy75 => (intro w hSw; (try dsimp only at hSw); first | (go_simp; done) | (go_simp; with_reducible rfl))
            try simp only [Act.put, List.setIfInBounds_toArray, List.set_cons_zero, List.set_cons_succ]
            refine wpAnyH_take (i := 5) (oi := { dst := some 71, op := _, type := _, pos := _, after := _, guard := _ }) (v := ?v76) rfl (by kernel_rfl) (by kernel_rfl) (by kernel_rfl) (fun _ _ _ h => h) (Or.inl ⟨by rfl, ?hy76⟩) (by assumption) ?r76
            case hy76 => (intro w hSw; (try dsimp only at hSw); first | (go_simp; done) | (go_simp; with_reducible rfl))
            try simp only [Act.put, List.setIfInBounds_toArray, List.set_cons_zero, List.set_cons_succ]
            refine wpAnyH_take (i := 6) (oi := { dst := some 72, op := _, type := _, pos := _, after := _, guard := _ }) (v := ?v77) rfl (by kernel_rfl) (by kernel_rfl) (by kernel_rfl) (fun _ _ _ h => h) (Or.inl ⟨by rfl, ?hy77⟩) (by assumption) ?r77
            case hy77 => (intro w hSw; (try dsimp only at hSw); first | (go_simp; done) | (go_simp; with_reducible rfl))
            try simp only [Act.put, List.setIfInBounds_toArray, List.set_cons_zero, List.set_cons_succ]
            refine wpAnyH_take (i := 8) (oi := { dst := some 74, op := _, type := _, pos := _, after := _, guard := _ }) (v := ?v78) rfl (by kernel_rfl) (by kernel_rfl) (by kernel_rfl) (fun _ _ _ h => h) (Or.inl ⟨by rfl, ?hy78⟩) (by assumption) ?r78
            case hy78 => (intro w hSw; (try dsimp only at hSw); first | (go_simp; done) | (go_simp; with_reducible rfl))
            try simp only [Act.put, List.setIfInBounds_toArray, List.set_cons_zero, List.set_cons_succ]
            refine wpAnyH_take (i := 9) (oi := { dst := some 75, op := _, type := _, pos := _, after := _, guard := _ }) (v := ?v79) rfl (by kernel_rfl) (by kernel_rfl) (by kernel_rfl) (fun _ _ _ h => h) (Or.inl ⟨by rfl, ?hy79⟩) (by assumption) ?r79
            case hy79 => (intro w hSw; (try dsimp only at hSw); first | (go_simp; done) | (go_simp; with_reducible rfl))
            try simp only [Act.put, List.setIfInBounds_toArray, List.set_cons_zero, List.set_cons_succ]
            refine wpAnyH_ready (rs := [7]) (by kernel_rfl) (by simp) ?_
            refine AllReadyH.cons (o := { dst := some 73, op := _, type := _, pos := _, after := _, guard := _ }) rfl (fun K hK => ?_) AllReadyH.nil
            go_simp
            (go_at_call 9; refine (as_bool ((acc_bare true _ _).trans (by rw [← HG.out]; rfl : (true && _) = G)) (acc_K _ a.f1 _ _ true a.f3 _ (HM.out.below (by go_split_ands; assumption)) (KB.out _ (by go_split_ands; assumption)) (KS.out _ (by go_split_ands; assumption)) B1.out B2.out (fun x hx => absurd hx (by simp)) (fun x hx => absurd hx (by simp)))).mono ?_; rintro e w14 ⟨rfl, hw14⟩; try go_wp2_with fail)
            refine hK.out _ _ ?hS80 (fun hHeld => ?_)
            case hS80 => (go_split_ands; (repeat' apply And.intro) <;> (first | assumption | exact pw_cell_below (by assumption) (by assumption) | exact below_step (by assumption) (by assumption) | exact below_drew1 (by assumption)))
            clear hK K
            try simp only [Act.put, List.setIfInBounds_toArray, List.set_cons_zero, List.set_cons_succ]
            refine wpAnyH_take (i := 10) (oi := { dst := some 76, op := _, type := _, pos := _, after := _, guard := _ }) (v := ?v81) rfl (by kernel_rfl) (by kernel_rfl) (by kernel_rfl) (fun _ _ _ h => h) (Or.inl ⟨by rfl, ?hy81⟩) (by assumption) ?r81
            case hy81 => (intro w hSw; (try dsimp only at hSw); first | (go_simp; done) | (go_simp; with_reducible rfl))
            try simp only [Act.put, List.setIfInBounds_toArray, List.set_cons_zero, List.set_cons_succ]
            refine wpAnyH_take (i := 11) (oi := { dst := some 77, op := _, type := _, pos := _, after := _, guard := _ }) (v := ?v82) rfl (by kernel_rfl) (by kernel_rfl) (by kernel_rfl) (fun _ _ _ h => h) (Or.inl ⟨by rfl, ?hy82⟩) (by assumption) ?r82
            case hy82 => (intro w hSw; (try dsimp only at hSw); first | (go_simp; done) | (go_simp; with_reducible rfl))
            try simp only [Act.put, List.setIfInBounds_toArray, List.set_cons_zero, List.set_cons_succ]
            refine wpAnyH_take (i := 12) (oi := { dst := some 78, op := _, type := _, pos := _, after := _, guard := _ }) (v := ?v83) rfl (by kernel_rfl) (by kernel_rfl) (by kernel_rfl) (fun _ _ _ h => h) (Or.inl ⟨by rfl, ?hy83⟩) (by assumption) ?r83
            case hy83 => (intro w hSw; (try dsimp only at hSw); first | (go_simp; done) | (go_simp; with_reducible rfl))
            try simp only [Act.put, List.setIfInBounds_toArray, List.set_cons_zero, List.set_cons_succ]
            refine wpAnyH_take (i := 13) (oi := { dst := some 79, op := _, type := _, pos := _, after := _, guard := _ }) (v := ?v84) rfl (by kernel_rfl) (by kernel_rfl) (by kernel_rfl) (fun _ _ _ h => h) (Or.inl ⟨by rfl, ?hy84⟩) (by assumption) ?r84
            case hy84 => (intro w hSw; (try dsimp only at hSw); first | (go_simp; done) | (go_simp; with_reducible rfl))
            try simp only [Act.put, List.setIfInBounds_toArray, List.set_cons_zero, List.set_cons_succ]
            refine wpAnyH_take (i := 14) (oi := { dst := some 80, op := _, type := _, pos := _, after := _, guard := _ }) (v := ?v85) rfl (by kernel_rfl) (by kernel_rfl) (by kernel_rfl) (fun _ _ _ h => h) (Or.inl ⟨by rfl, ?hy85⟩) (by assumption) ?r85
            case hy85 => (intro w hSw; (try dsimp only at hSw); first | (go_simp; done) | (go_simp; with_reducible rfl))
            try simp only [Act.put, List.setIfInBounds_toArray, List.set_cons_zero, List.set_cons_succ]
            refine wpAnyH_ready (rs := [15]) (by kernel_rfl) (by simp) ?_
            refine AllReadyH.cons (o := { dst := some 81, op := _, type := _, pos := _, after := _, guard := _ }) rfl (fun K hK => ?_) AllReadyH.nil
            go_simp
            (go_at_call 10; refine (as_bool HG.out.symm (grey_K a.f1 _ a.f3 _ (HM.out.below (by go_split_ands; assumption)) (KS.out _ (by go_split_ands; assumption)) B1.out B2.out)).mono ?_; rintro e w14 ⟨rfl, hw14⟩; try go_wp2_with fail)
            refine hK.out _ _ ?hS86 (fun hHeld => ?_)
            case hS86 => (go_split_ands; (repeat' apply And.intro) <;> (first | assumption | exact pw_cell_below (by assumption) (by assumption) | exact below_step (by assumption) (by assumption) | exact below_drew1 (by assumption)))
            clear hK K
            try simp only [Act.put, List.setIfInBounds_toArray, List.set_cons_zero, List.set_cons_succ]
            refine wpAnyH_take (i := 16) (oi := { dst := some 82, op := _, type := _, pos := _, after := _, guard := _ }) (v := ?v87) rfl (by kernel_rfl) (by kernel_rfl) (by kernel_rfl) (fun _ _ _ h => h) (Or.inl ⟨by rfl, ?hy87⟩) (by assumption) ?r87
            case hy87 => (intro w hSw; (try dsimp only at hSw); first | (go_simp; done) | (go_simp; with_reducible rfl))
            try simp only [Act.put, List.setIfInBounds_toArray, List.set_cons_zero, List.set_cons_succ]
            refine wpAnyH_take (i := 17) (oi := { dst := some 83, op := _, type := _, pos := _, after := _, guard := _ }) (v := ?v88) rfl (by kernel_rfl) (by kernel_rfl) (by kernel_rfl) (fun _ _ _ h => h) (Or.inl ⟨by rfl, ?hy88⟩) (by assumption) ?r88
            case hy88 => (intro w hSw; (try dsimp only at hSw); first | (go_simp; done) | (go_simp; with_reducible rfl))
            try simp only [Act.put, List.setIfInBounds_toArray, List.set_cons_zero, List.set_cons_succ]
            refine wpAnyH_take (i := 18) (oi := { dst := some 84, op := _, type := _, pos := _, after := _, guard := _ }) (v := ?v89) rfl (by kernel_rfl) (by kernel_rfl) (by kernel_rfl) (fun _ _ _ h => h) (Or.inl ⟨by rfl, ?hy89⟩) (by assumption) ?r89
            case hy89 => (intro w hSw; (try dsimp only at hSw); first | (go_simp; done) | (go_simp; with_reducible rfl))
            try simp only [Act.put, List.setIfInBounds_toArray, List.set_cons_zero, List.set_cons_succ]
            refine wpAnyH_ready (rs := [19]) (by kernel_rfl) (by simp) ?_
            refine AllReadyH.cons (o := { dst := some 85, op := _, type := _, pos := _, after := _, guard := _ }) rfl (fun K hK => ?_) AllReadyH.nil
            go_simp
            (go_at_call 7; refine (alive20 _ (HM.out.below (by go_split_ands; assumption))).mono ?_; rintro e w14 ⟨rfl, hw14⟩; try go_wp2_with fail)
            refine hK.out _ _ ?hS90 (fun hHeld => ?_)
            case hS90 => (go_split_ands; (repeat' apply And.intro) <;> (first | assumption | exact pw_cell_below (by assumption) (by assumption) | exact below_step (by assumption) (by assumption) | exact below_drew1 (by assumption)))
            clear hK K
            try simp only [Act.put, List.setIfInBounds_toArray, List.set_cons_zero, List.set_cons_succ]
            refine wpAnyH_take (i := 20) (oi := { dst := some 86, op := _, type := _, pos := _, after := _, guard := _ }) (v := ?v91) rfl (by kernel_rfl) (by kernel_rfl) (by kernel_rfl) (fun _ _ _ h => h) (Or.inl ⟨by rfl, ?hy91⟩) (by assumption) ?r91
            case hy91 => (intro w hSw; (try dsimp only at hSw); first | (go_simp; done) | (go_simp; with_reducible rfl))
            try simp only [Act.put, List.setIfInBounds_toArray, List.set_cons_zero, List.set_cons_succ]
            refine wpAnyH_take (i := 21) (oi := { dst := some 6, op := _, type := _, pos := _, after := _, guard := _ }) (v := ?v92) rfl (by kernel_rfl) (by kernel_rfl) (by kernel_rfl) (fun _ _ _ h => h) (Or.inl ⟨by rfl, ?hy92⟩) (by assumption) ?r92
            case hy92 => (intro w hSw; (try dsimp only at hSw); first | (go_simp; done) | (go_simp; with_reducible rfl))
            try simp only [Act.put, List.setIfInBounds_toArray, List.set_cons_zero, List.set_cons_succ]
            refine wpAnyH_done (by kernel_rfl) ?_ _
            go_wp2
            go_ret
            exact ⟨rfl, by go_split_ands; assumption⟩
       | false =>
        have ISO := Lib.hid (acc_iso HAS.out.symm)
        have F1' : Hid (sp[1]? = some (.bool true)) := by show _ = _; rw [F1.out, ISO.out]
        go_wp2_with (first
          | (with_reducible refine ev_load rfl 25 (.tmp 7) rfl _ _ rfl HB5.out sp.toList LS.out U25.out rfl I25.out ?_)
          | ((with_reducible refine gate_dst (N := 9) rfl ?_); refine box_event ?hg (N := 9) ?hd (cs := #[.string ⟨#[]⟩, .bool false, .bool false, .slice none 0 0, .slice none 0 0, .slice none 0 0, .slice none 0 0]) (t := 25) ?hr ?_; (case hd => rfl); (case hg => rfl); (case hr => first | (go_simp; done) | (go_simp; rfl)); intro g9 hg_ w6 hb_ hw_; have HC6 := Lib.hid hb_; have HG9 := Lib.hid (show w.heap.size ≤ g9 by have := HW5.out.size; omega); have HA6 := Lib.hid (blk_below HA5.out hw_); have HB6 := Lib.hid (blk_below HB5.out hw_); have HW6 := Lib.hid (below_then HW5.out HW5.out.size hw_); have N9 := Lib.hid (show g0 ≠ g9 by have := blk_lt HA5.out; omega); have N79 := Lib.hid (show g7 ≠ g9 by have := blk_lt HB5.out; omega); clear hb_ hw_ hg_)
          | (with_reducible refine ev_store_all rfl rfl 25 (.tmp 9) (.tmp 28) rfl _ rfl sp rfl HC6.out SZ.out I25a.out ONE.out ?_; intro w7 hb_ ho_; have HC7 := Lib.hid hb_; have HA7 := Lib.hid (ho_.blk HA6.out N9.out); have HB7 := Lib.hid (ho_.blk HB6.out N79.out); have HW7 := Lib.hid (below_only HW6.out ho_ (fun i hi => by rw [hi]; exact HG9.out)); clear hb_ ho_)
          | ((with_reducible refine gate_dst (N := 31) rfl ?_); refine Kd.R_lit Kd.string w.heap.size 9 ?hg (N := 31) ?hd (xs := [dir]) (inner := [.string dir]) (ok := fun k => w7.heap.size ≤ k) (okp := fun k => w7.heap.size ≤ k) (w0 := w) ?hr ⟨rfl, ?hrep⟩ (fun _ h => h) (Nat.le_refl _) ?hB ?hbase (by simp) ?_; (case hg => rfl); (case hd => rfl); (case hr => first | (go_simp; done) | (go_simp; rfl)); (case hrep => intro j p hj; match j, hj with | 0, hj => (obtain rfl : dir = p := (by simpa using hj)); rfl); (case hB => exact HW7.out); (case hbase => exact HW7.out.size); intro v8 w8 hR8 hB8 hg8 hown8; have HR8 := Lib.hid hR8; have O8 := Lib.hid hown8; have HA8 := Lib.hid ((only_grown hg8).blk HA7.out (by simp)); have HB8 := Lib.hid ((only_grown hg8).blk HB7.out (by simp)); have HC8 := Lib.hid ((only_grown hg8).blk HC7.out (by simp)); have HW8 := Lib.hid (below_only HW7.out (only_grown hg8) (by simp)); have SZ8 := Lib.hid (show w7.heap.size ≤ w8.heap.size from hg8.size); have c4 := cell_blk HB8.out F4.out; clear hR8 hB8 hg8 hown8)
          | (at_builtin; have c4' := Lib.hid c4; clear c4; refine Kd.R_append_row Value.string ByteArray.empty (w0 := w) w.heap.size rfl _ _ 22 9 (.string ⟨#[]⟩) 16 rfl Tryd.underlying22 (by kernel_rfl) rfl (by decide) v8 [dir] a.f0.f4 A4 a.f0.f4.length c4 (fun k => w7.heap.size ≤ k) rfl rfl (fun k hk => Nat.le_trans SZ8.out hk) HR8.out (Kd.C_below G4.out.2 HW8.out) HW8.out HW8.out.size (by have := Z4.out; simp; omega) ?_; intro v9 w9 hR9 hB9 hg9 hat9; obtain ⟨A9, c9, rfl, l9, g9'⟩ := Kd.R_reads hR9; have HR9 := Lib.hid hR9; have NE := Lib.hid (show ∀ g, g < w7.heap.size → ¬ (some g = v8.ownBlock) from fun g hg he => by obtain ⟨b, hb1, hb2⟩ := O8.out; rw [hb1] at he; injection he with he; omega); have HA9 := Lib.hid ((only_grown hg9).blk HA8.out (NE.out _ (blk_lt HA7.out))); have HB9 := Lib.hid ((only_grown hg9).blk HB8.out (NE.out _ (blk_lt HB7.out))); have HC9 := Lib.hid ((only_grown hg9).blk HC8.out (NE.out _ (blk_lt HC7.out))); have HW9 := Lib.hid hB9; clear hR9 hB9 hg9 hat9 l9 g9')
          | ((with_reducible refine gate_store (t := 22) (p := 35) rfl ?_); refine ev_store_cell rfl rfl g9 4 (.slice A9 (a.f0.f4.length + 1) c9) HC9.out ?hst ?_; (case hst => (have f1 := cell_blk HC9.out F4.out; have f2 := blk_frozen HC9.out 4; first | (go_simp; done) | (go_simp; rfl))); intro w10 hb10 ho10; obtain ⟨sp9, hs9⟩ : ∃ x, x = sp.setIfInBounds 4 (.slice A9 (a.f0.f4.length + 1) c9) := ⟨_, rfl⟩; rw [← hs9] at hb10; have HS9 := Lib.hid hs9; clear hs9; have HC10 := Lib.hid hb10; have HA10 := Lib.hid (ho10.blk HA9.out N9.out); have HB10 := Lib.hid (ho10.blk HB9.out N79.out); have HO10 := Lib.hid ho10; have HW10 := Lib.hid (below_only HW9.out ho10 (fun i hi => by rw [hi]; exact HG9.out)); have HA11 := HA10; have HB11 := HB10; have HW11 := HW10; have c0 := cell_blk HB11.out F0.out; have c1 := cell_blk HB11.out F1'.out; clear hb10 ho10)
          | ((with_reducible refine gate_dst (N := 10) rfl ?_); refine box_event ?hg (N := 10) ?hd (cs := #[.string ⟨#[]⟩, .bool false, .bool false, .slice none 0 0, .slice none 0 0, .slice none 0 0, .slice none 0 0]) (t := 25) ?hr ?_; (case hd => rfl); (case hg => rfl); (case hr => first | (go_simp; done) | (go_simp; rfl)); intro g10 hg_ w12 hb_ hw_; have HX12 := Lib.hid hb_; have HG10 := Lib.hid (show w.heap.size ≤ g10 by have := HW11.out.size; omega); have HA12 := Lib.hid (blk_below HA11.out hw_); have HW12 := Lib.hid (below_then HW11.out HW11.out.size hw_); have N10 := Lib.hid (show g0 ≠ g10 by have := blk_lt HA11.out; omega); clear hb_ hw_ hg_)
          | (with_reducible refine ev_store_all rfl rfl 25 (.tmp 10) (.tmp 65) rfl _ rfl #[.string a.f0.f0, .bool true, .bool false, .slice none 0 0, .slice none 0 0, .slice none 0 0, .slice none 0 0] rfl HX12.out SZB.out I25b.out ONEB.out ?_; intro w13 hb_ ho_; have HX13 := Lib.hid hb_; have HA13 := Lib.hid (ho_.blk HA12.out N10.out); have HW13 := Lib.hid (below_only HW12.out ho_ (fun i hi => by rw [hi]; exact HG10.out)); clear c0 c1; clear hb_ ho_))
        obtain ⟨G, hG⟩ : ∃ G, G = polGrey a.f1.f1 a.f1.f3 a.f1.f2 a.f1.f4 a.f3 := ⟨_, rfl⟩
        have HG := Lib.hid hG
        clear hG
        have eqG : (G == G) = true := by simp
        have MB : Hid (k25.K w13 (⟨a.f0.f0, true, false, [], [], [], []⟩ : S25) #[.string a.f0.f0, .bool true, .bool false, .slice none 0 0, .slice none 0 0, .slice none 0 0, .slice none 0 0].toList) := bare_K w13 a.f0.f0
        have KB := Lib.hid (fun W' (h : Below w.heap.size w W') => bare_K W' a.f0.f0)
        have KS := Lib.hid (fun W' (h : Below w.heap.size w W') => k28.K_below h HSTL.out)
        have d_g10_0 := cell_blk HX13.out (j := 0) rfl
        have d_g10_1 := cell_blk HX13.out (j := 1) rfl
        have d_g10_2 := cell_blk HX13.out (j := 2) rfl
        have d_g10_3 := cell_blk HX13.out (j := 3) rfl
        have d_g10_4 := cell_blk HX13.out (j := 4) rfl
        have d_g10_5 := cell_blk HX13.out (j := 5) rfl
        have d_g10_6 := cell_blk HX13.out (j := 6) rfl
        have d_g0_7 := cell_blk HA13.out (j := 7) E7.out
        have d_g0_8 := cell_blk HA13.out (j := 8) E8.out
        have d_g0_9 := cell_blk HA13.out (j := 9) E9.out
        have d_g0_10 := cell_blk HA13.out (j := 10) E10.out
        have d_g0_11 := cell_blk HA13.out (j := 11) E11.out
        have d_g0_12 := cell_blk HA13.out (j := 12) E12.out
        have d_g0_13 := cell_blk HA13.out (j := 13) E13.out
        have d_g0_14 := cell_blk HA13.out (j := 14) E14.out
        have d_g0_15 := cell_blk HA13.out (j := 15) E15.out
        cases first with
        | false =>
          have hbel := HW13.out
          refine wp_region_held_drew (S := fun w' => w'.cell? ⟨g10, 0, none⟩ = some (.string a.f0.f0) ∧ w'.cell? ⟨g10, 1, none⟩ = some (.bool true) ∧ w'.cell? ⟨g10, 2, none⟩ = some (.bool false) ∧ w'.cell? ⟨g10, 3, none⟩ = some (.slice none 0 0) ∧ w'.cell? ⟨g10, 4, none⟩ = some (.slice none 0 0) ∧ w'.cell? ⟨g10, 5, none⟩ = some (.slice none 0 0) ∧ w'.cell? ⟨g10, 6, none⟩ = some (.slice none 0 0) ∧ w'.cell? ⟨g0, 7, none⟩ = some (.int .u16 a.f1.f0) ∧ w'.cell? ⟨g0, 8, none⟩ = some (.int .i64 a.f1.f1) ∧ w'.cell? ⟨g0, 9, none⟩ = some (.slice A2 a.f1.f2.length c2) ∧ w'.cell? ⟨g0, 10, none⟩ = some (.int .i64 a.f1.f3) ∧ w'.cell? ⟨g0, 11, none⟩ = some (.string a.f1.f4) ∧ w'.cell? ⟨g0, 12, none⟩ = some (.int .i64 a.f1.f5) ∧ w'.cell? ⟨g0, 13, none⟩ = some (.int .i64 a.f1.f6) ∧ w'.cell? ⟨g0, 14, none⟩ = some (.bool false) ∧ w'.cell? ⟨g0, 15, none⟩ = some (.string a.f3) ∧ Below w.heap.size w w') (by kernel_rfl) ?hS93 (fun hHeld => ?_)
          case hS93 => (go_split_ands; (repeat' apply And.intro) <;> (first | assumption | exact pw_cell_below (by assumption) (by assumption) | exact below_step (by assumption) (by assumption) | exact below_drew1 (by assumption)))
          refine wpAnyH_take (i := 0) (oi := { dst := some 66, op := _, type := _, pos := _, after := _, guard := _ }) (v := ?v94) rfl (by kernel_rfl) (by kernel_rfl) (by kernel_rfl) (fun _ _ _ h => h) (Or.inl ⟨by rfl, ?hy94⟩) (by assumption) ?r94
          case hy94 => (intro w hSw; (try dsimp only at hSw); first | (go_simp; done) | (go_simp; with_reducible rfl))
          try simp only [Act.put, List.setIfInBounds_toArray, List.set_cons_zero, List.set_cons_succ]
          refine wpAnyH_take (i := 1) (oi := { dst := some 67, op := _, type := _, pos := _, after := _, guard := _ }) (v := ?v95) rfl (by kernel_rfl) (by kernel_rfl) (by kernel_rfl) (fun _ _ _ h => h) (Or.inl ⟨by rfl, ?hy95⟩) (by assumption) ?r95
          case hy95 => (intro w hSw; (try dsimp only at hSw); first | (go_simp; done) | (go_simp; with_reducible rfl))
          try simp only [Act.put, List.setIfInBounds_toArray, List.set_cons_zero, List.set_cons_succ]
          refine wpAnyH_take (i := 2) (oi := { dst := some 68, op := _, type := _, pos := _, after := _, guard := _ }) (v := ?v96) rfl (by kernel_rfl) (by kernel_rfl) (by kernel_rfl) (fun _ _ _ h => h) (Or.inl ⟨by rfl, ?hy96⟩) (by assumption) ?r96
          case hy96 => (intro w hSw; (try dsimp only at hSw); first | (go_simp; done) | (go_simp; with_reducible rfl))
          try simp only [Act.put, List.setIfInBounds_toArray, List.set_cons_zero, List.set_cons_succ]
          refine wpAnyH_take (i := 3) (oi := { dst := some 69, op := _, type := _, pos := _, after := _, guard := _ }) (v := ?v97) rfl (by kernel_rfl) (by kernel_rfl) (by kernel_rfl) (fun _ _ _ h => h) (Or.inl ⟨by rfl, ?hy97⟩) (by assumption) ?r97
          case hy97 => (intro w hSw; (try dsimp only at hSw); first | (go_simp; done) | (go_simp; with_reducible rfl))
          try simp only [Act.put, List.setIfInBounds_toArray, List.set_cons_zero, List.set_cons_succ]
          refine wpAnyH_take (i := 4) (oi := { dst := some 70, op := _, type := _, pos := _, after := _, guard := _ }) (v := ?v98) rfl (by kernel_rfl) (by kernel_rfl) (by kernel_rfl) (fun _ _ _ h => h) (Or.inl ⟨by rfl, ?hy98⟩) (by assumption) ?r98
          case hy98 => (intro w hSw; (try dsimp only at hSw); first | (go_simp; done) | (go_simp; with_reducible rfl))
          try simp only [Act.put, List.setIfInBounds_toArray, List.set_cons_zero, List.set_cons_succ]
          refine wpAnyH_take (i := 5) (oi := { dst := some 71, op := _, type := _, pos := _, after := _, guard := _ }) (v := ?v99) rfl (by kernel_rfl) (by kernel_rfl) (by kernel_rfl) (fun _ _ _ h => h) (Or.inl ⟨by rfl, ?hy99⟩) (by assumption) ?r99
          case hy99 => (intro w hSw; (try dsimp only at hSw); first | (go_simp; done) | (go_simp; with_reducible rfl))
          try simp only [Act.put, List.setIfInBounds_toArray, List.set_cons_zero, List.set_cons_succ]
          refine wpAnyH_take (i := 6) (oi := { dst := some 72, op := _, type := _, pos := _, after := _, guard := _ }) (v := ?v100) rfl (by kernel_rfl) (by kernel_rfl) (by kernel_rfl) (fun _ _ _ h => h) (Or.inl ⟨by rfl, ?hy100⟩) (by assumption) ?r100
          case hy100 => (intro w hSw; (try dsimp only at hSw); first | (go_simp; done) | (go_simp; with_reducible rfl))
          try simp only [Act.put, List.setIfInBounds_toArray, List.set_cons_zero, List.set_cons_succ]
          refine wpAnyH_take (i := 8) (oi := { dst := some 74, op := _, type := _, pos := _, after := _, guard := _ }) (v := ?v101) rfl (by kernel_rfl) (by kernel_rfl) (by kernel_rfl) (fun _ _ _ h => h) (Or.inl ⟨by rfl, ?hy101⟩) (by assumption) ?r101
          case hy101 => (intro w hSw; (try dsimp only at hSw); first | (go_simp; done) | (go_simp; with_reducible rfl))
          try simp only [Act.put, List.setIfInBounds_toArray, List.set_cons_zero, List.set_cons_succ]
          refine wpAnyH_take (i := 9) (oi := { dst := some 75, op := _, type := _, pos := _, after := _, guard := _ }) (v := ?v102) rfl (by kernel_rfl) (by kernel_rfl) (by kernel_rfl) (fun _ _ _ h => h) (Or.inl ⟨by rfl, ?hy102⟩) (by assumption) ?r102
          case hy102 => (intro w hSw; (try dsimp only at hSw); first | (go_simp; done) | (go_simp; with_reducible rfl))
          try simp only [Act.put, List.setIfInBounds_toArray, List.set_cons_zero, List.set_cons_succ]
          refine wpAnyH_ready (rs := [7]) (by kernel_rfl) (by simp) ?_
          refine AllReadyH.cons (o := { dst := some 73, op := _, type := _, pos := _, after := _, guard := _ }) rfl (fun K hK => ?_) AllReadyH.nil
          go_simp
          (go_at_call 9; refine (as_bool ((acc_bare false _ _).trans (rfl : (false && _) = false)) (acc_K _ a.f1 _ _ false a.f3 _ (HM.out.below (by go_split_ands; assumption)) (KB.out _ (by go_split_ands; assumption)) (KS.out _ (by go_split_ands; assumption)) B1.out B2.out (fun x hx => absurd hx (by simp)) (fun x hx => absurd hx (by simp)))).mono ?_; rintro e w14 ⟨rfl, hw14⟩; try go_wp2_with fail)
          refine hK.out _ _ ?hS103 (fun hHeld => ?_)
          case hS103 => (go_split_ands; (repeat' apply And.intro) <;> (first | assumption | exact pw_cell_below (by assumption) (by assumption) | exact below_step (by assumption) (by assumption) | exact below_drew1 (by assumption)))
          clear hK K
          try simp only [Act.put, List.setIfInBounds_toArray, List.set_cons_zero, List.set_cons_succ]
          refine wpAnyH_take (i := 10) (oi := { dst := some 76, op := _, type := _, pos := _, after := _, guard := _ }) (v := ?v104) rfl (by kernel_rfl) (by kernel_rfl) (by kernel_rfl) (fun _ _ _ h => h) (Or.inl ⟨by rfl, ?hy104⟩) (by assumption) ?r104
          case hy104 => (intro w hSw; (try dsimp only at hSw); first | (go_simp; done) | (go_simp; with_reducible rfl))
          try simp only [Act.put, List.setIfInBounds_toArray, List.set_cons_zero, List.set_cons_succ]
          refine wpAnyH_take (i := 11) (oi := { dst := some 77, op := _, type := _, pos := _, after := _, guard := _ }) (v := undef) rfl (by kernel_rfl) (by kernel_rfl) (by kernel_rfl) (fun _ _ _ h => h) (Or.inr ⟨by rfl, rfl⟩) (by assumption) ?r105
          try simp only [Act.put, List.setIfInBounds_toArray, List.set_cons_zero, List.set_cons_succ]
          refine wpAnyH_take (i := 12) (oi := { dst := some 78, op := _, type := _, pos := _, after := _, guard := _ }) (v := undef) rfl (by kernel_rfl) (by kernel_rfl) (by kernel_rfl) (fun _ _ _ h => h) (Or.inr ⟨by rfl, rfl⟩) (by assumption) ?r106
          try simp only [Act.put, List.setIfInBounds_toArray, List.set_cons_zero, List.set_cons_succ]
          refine wpAnyH_take (i := 13) (oi := { dst := some 79, op := _, type := _, pos := _, after := _, guard := _ }) (v := undef) rfl (by kernel_rfl) (by kernel_rfl) (by kernel_rfl) (fun _ _ _ h => h) (Or.inr ⟨by rfl, rfl⟩) (by assumption) ?r107
          try simp only [Act.put, List.setIfInBounds_toArray, List.set_cons_zero, List.set_cons_succ]
          refine wpAnyH_take (i := 14) (oi := { dst := some 80, op := _, type := _, pos := _, after := _, guard := _ }) (v := undef) rfl (by kernel_rfl) (by kernel_rfl) (by kernel_rfl) (fun _ _ _ h => h) (Or.inr ⟨by rfl, rfl⟩) (by assumption) ?r108
          try simp only [Act.put, List.setIfInBounds_toArray, List.set_cons_zero, List.set_cons_succ]
          refine wpAnyH_take (i := 15) (oi := { dst := some 81, op := _, type := _, pos := _, after := _, guard := _ }) (v := undef) rfl (by kernel_rfl) (by kernel_rfl) (by kernel_rfl) (fun _ _ _ h => h) (Or.inr ⟨by rfl, rfl⟩) (by assumption) ?r109
          try simp only [Act.put, List.setIfInBounds_toArray, List.set_cons_zero, List.set_cons_succ]
          refine wpAnyH_take (i := 16) (oi := { dst := some 82, op := _, type := _, pos := _, after := _, guard := _ }) (v := ?v110) rfl (by kernel_rfl) (by kernel_rfl) (by kernel_rfl) (fun _ _ _ h => h) (Or.inl ⟨by rfl, ?hy110⟩) (by assumption) ?r110
          case hy110 => (intro w hSw; (try dsimp only at hSw); first | (go_simp; done) | (go_simp; with_reducible rfl))
          try simp only [Act.put, List.setIfInBounds_toArray, List.set_cons_zero, List.set_cons_succ]
          refine wpAnyH_take (i := 17) (oi := { dst := some 83, op := _, type := _, pos := _, after := _, guard := _ }) (v := ?v111) rfl (by kernel_rfl) (by kernel_rfl) (by kernel_rfl) (fun _ _ _ h => h) (Or.inl ⟨by rfl, ?hy111⟩) (by assumption) ?r111
          case hy111 => (intro w hSw; (try dsimp only at hSw); first | (go_simp; done) | (go_simp; with_reducible rfl))
          try simp only [Act.put, List.setIfInBounds_toArray, List.set_cons_zero, List.set_cons_succ]
          refine wpAnyH_take (i := 18) (oi := { dst := some 84, op := _, type := _, pos := _, after := _, guard := _ }) (v := ?v112) rfl (by kernel_rfl) (by kernel_rfl) (by kernel_rfl) (fun _ _ _ h => h) (Or.inl ⟨by rfl, ?hy112⟩) (by assumption) ?r112
          case hy112 => (intro w hSw; (try dsimp only at hSw); first | (go_simp; done) | (go_simp; with_reducible rfl))
          try simp only [Act.put, List.setIfInBounds_toArray, List.set_cons_zero, List.set_cons_succ]
          refine wpAnyH_ready (rs := [19]) (by kernel_rfl) (by simp) ?_
          refine AllReadyH.cons (o := { dst := some 85, op := _, type := _, pos := _, after := _, guard := _ }) rfl (fun K hK => ?_) AllReadyH.nil
          go_simp
          (go_at_call 7; refine (alive20 _ (HM.out.below (by go_split_ands; assumption))).mono ?_; rintro e w14 ⟨rfl, hw14⟩; try go_wp2_with fail)
          refine hK.out _ _ ?hS113 (fun hHeld => ?_)
          case hS113 => (go_split_ands; (repeat' apply And.intro) <;> (first | assumption | exact pw_cell_below (by assumption) (by assumption) | exact below_step (by assumption) (by assumption) | exact below_drew1 (by assumption)))
          clear hK K
          try simp only [Act.put, List.setIfInBounds_toArray, List.set_cons_zero, List.set_cons_succ]
          refine wpAnyH_take (i := 20) (oi := { dst := some 86, op := _, type := _, pos := _, after := _, guard := _ }) (v := ?v114) rfl (by kernel_rfl) (by kernel_rfl) (by kernel_rfl) (fun _ _ _ h => h) (Or.inl ⟨by rfl, ?hy114⟩) (by assumption) ?r114
          case hy114 => (intro w hSw; (try dsimp only at hSw); first | (go_simp; done) | (go_simp; with_reducible rfl))
          try simp only [Act.put, List.setIfInBounds_toArray, List.set_cons_zero, List.set_cons_succ]
          refine wpAnyH_take (i := 21) (oi := { dst := some 6, op := _, type := _, pos := _, after := _, guard := _ }) (v := ?v115) rfl (by kernel_rfl) (by kernel_rfl) (by kernel_rfl) (fun _ _ _ h => h) (Or.inl ⟨by rfl, ?hy115⟩) (by assumption) ?r115
          case hy115 => (intro w hSw; (try dsimp only at hSw); first | (go_simp; done) | (go_simp; with_reducible rfl))
          try simp only [Act.put, List.setIfInBounds_toArray, List.set_cons_zero, List.set_cons_succ]
          refine wpAnyH_done (by kernel_rfl) ?_ _
          go_wp2
          go_ret
          exact ⟨rfl, by go_split_ands; assumption⟩
        | true =>
          have hbel := HW13.out
          refine wp_region_held_drew (S := fun w' => w'.cell? ⟨g10, 0, none⟩ = some (.string a.f0.f0) ∧ w'.cell? ⟨g10, 1, none⟩ = some (.bool true) ∧ w'.cell? ⟨g10, 2, none⟩ = some (.bool false) ∧ w'.cell? ⟨g10, 3, none⟩ = some (.slice none 0 0) ∧ w'.cell? ⟨g10, 4, none⟩ = some (.slice none 0 0) ∧ w'.cell? ⟨g10, 5, none⟩ = some (.slice none 0 0) ∧ w'.cell? ⟨g10, 6, none⟩ = some (.slice none 0 0) ∧ w'.cell? ⟨g0, 7, none⟩ = some (.int .u16 a.f1.f0) ∧ w'.cell? ⟨g0, 8, none⟩ = some (.int .i64 a.f1.f1) ∧ w'.cell? ⟨g0, 9, none⟩ = some (.slice A2 a.f1.f2.length c2) ∧ w'.cell? ⟨g0, 10, none⟩ = some (.int .i64 a.f1.f3) ∧ w'.cell? ⟨g0, 11, none⟩ = some (.string a.f1.f4) ∧ w'.cell? ⟨g0, 12, none⟩ = some (.int .i64 a.f1.f5) ∧ w'.cell? ⟨g0, 13, none⟩ = some (.int .i64 a.f1.f6) ∧ w'.cell? ⟨g0, 14, none⟩ = some (.bool true) ∧ w'.cell? ⟨g0, 15, none⟩ = some (.string a.f3) ∧ Below w.heap.size w w') (by kernel_rfl) ?hS116 (fun hHeld => ?_)
          case hS116 => (go_split_ands; (repeat' apply And.intro) <;> (first | assumption | exact pw_cell_below (by assumption) (by assumption) | exact below_step (by assumption) (by assumption) | exact below_drew1 (by assumption)))
          refine wpAnyH_take (i := 0) (oi := { dst := some 66, op := _, type := _, pos := _, after := _, guard := _ }) (v := ?v117) rfl (by kernel_rfl) (by kernel_rfl) (by kernel_rfl) (fun _ _ _ h => h) (Or.inl ⟨by rfl, ?hy117⟩) (by assumption) ?r117
          case hy117 => (intro w hSw; (try dsimp only at hSw); first | (go_simp; done) | (go_simp; with_reducible rfl))
          try simp only [Act.put, List.setIfInBounds_toArray, List.set_cons_zero, List.set_cons_succ]
          refine wpAnyH_take (i := 1) (oi := { dst := some 67, op := _, type := _, pos := _, after := _, guard := _ }) (v := ?v118) rfl (by kernel_rfl) (by kernel_rfl) (by kernel_rfl) (fun _ _ _ h => h) (Or.inl ⟨by rfl, ?hy118⟩) (by assumption) ?r118
          case hy118 => (intro w hSw; (try dsimp only at hSw); first | (go_simp; done) | (go_simp; with_reducible rfl))
          try simp only [Act.put, List.setIfInBounds_toArray, List.set_cons_zero, List.set_cons_succ]
          refine wpAnyH_take (i := 2) (oi := { dst := some 68, op := _, type := _, pos := _, after := _, guard := _ }) (v := ?v119) rfl (by kernel_rfl) (by kernel_rfl) (by kernel_rfl) (fun _ _ _ h => h) (Or.inl ⟨by rfl, ?hy119⟩) (by assumption) ?r119
          case hy119 => (intro w hSw; (try dsimp only at hSw); first | (go_simp; done) | (go_simp; with_reducible rfl))
          try simp only [Act.put, List.setIfInBounds_toArray, List.set_cons_zero, List.set_cons_succ]
          refine wpAnyH_take (i := 3) (oi := { dst := some 69, op := _, type := _, pos := _, after := _, guard := _ }) (v := ?v120) rfl (by kernel_rfl) (by kernel_rfl) (by kernel_rfl) (fun _ _ _ h => h) (Or.inl ⟨by rfl, ?hy120⟩) (by assumption) ?r120
          case hy120 => (intro w hSw; (try dsimp only at hSw); first | (go_simp; done) | (go_simp; with_reducible rfl))
          try simp only [Act.put, List.setIfInBounds_toArray, List.set_cons_zero, List.set_cons_succ]
          refine wpAnyH_take (i := 4) (oi := { dst := some 70, op := _, type := _, pos := _, after := _, guard := _ }) (v := ?v121) rfl (by kernel_rfl) (by kernel_rfl) (by kernel_rfl) (fun _ _ _ h => h) (Or.inl ⟨by rfl, ?hy121⟩) (by assumption) ?r121
          case hy121 => (intro w hSw; (try dsimp only at hSw); first | (go_simp; done) | (go_simp; with_reducible rfl))
          try simp only [Act.put, List.setIfInBounds_toArray, List.set_cons_zero, List.set_cons_succ]
          refine wpAnyH_take (i := 5) (oi := { dst := some 71, op := _, type := _, pos := _, after := _, guard := _ }) (v := ?v122) rfl (by kernel_rfl) (by kernel_rfl) (by kernel_rfl) (fun _ _ _ h => h) (Or.inl ⟨by rfl, ?hy122⟩) (by assumption) ?r122
          case hy122 => (intro w hSw; (try dsimp only at hSw); first | (go_simp; done) | (go_simp; with_reducible rfl))
          try simp only [Act.put, List.setIfInBounds_toArray, List.set_cons_zero, List.set_cons_succ]
          refine wpAnyH_take (i := 6) (oi := { dst := some 72, op := _, type := _, pos := _, after := _, guard := _ }) (v := ?v123) rfl (by kernel_rfl) (by kernel_rfl) (by kernel_rfl) (fun _ _ _ h => h) (Or.inl ⟨by rfl, ?hy123⟩) (by assumption) ?r123
          case hy123 => (intro w hSw; (try dsimp only at hSw); first | (go_simp; done) | (go_simp; with_reducible rfl))
          try simp only [Act.put, List.setIfInBounds_toArray, List.set_cons_zero, List.set_cons_succ]
          refine wpAnyH_take (i := 8) (oi := { dst := some 74, op := _, type := _, pos := _, after := _, guard := _ }) (v := ?v124) rfl (by kernel_rfl) (by kernel_rfl) (by kernel_rfl) (fun _ _ _ h => h) (Or.inl ⟨by rfl, ?hy124⟩) (by assumption) ?r124
          case hy124 => (intro w hSw; (try dsimp only at hSw); first | (go_simp; done) | (go_simp; with_reducible rfl))
          try simp only [Act.put, List.setIfInBounds_toArray, List.set_cons_zero, List.set_cons_succ]
          refine wpAnyH_take (i := 9) (oi := { dst := some 75, op := _, type := _, pos := _, after := _, guard := _ }) (v := ?v125) rfl (by kernel_rfl) (by kernel_rfl) (by kernel_rfl) (fun _ _ _ h => h) (Or.inl ⟨by rfl, ?hy125⟩) (by assumption) ?r125
          case hy125 => (intro w hSw; (try dsimp only at hSw); first | (go_simp; done) | (go_simp; with_reducible rfl))
          try simp only [Act.put, List.setIfInBounds_toArray, List.set_cons_zero, List.set_cons_succ]
          refine wpAnyH_ready (rs := [7]) (by kernel_rfl) (by simp) ?_
          refine AllReadyH.cons (o := { dst := some 73, op := _, type := _, pos := _, after := _, guard := _ }) rfl (fun K hK => ?_) AllReadyH.nil
          go_simp
          (go_at_call 9; refine (as_bool ((acc_bare true _ _).trans (by rw [← HG.out]; rfl : (true && _) = G)) (acc_K _ a.f1 _ _ true a.f3 _ (HM.out.below (by go_split_ands; assumption)) (KB.out _ (by go_split_ands; assumption)) (KS.out _ (by go_split_ands; assumption)) B1.out B2.out (fun x hx => absurd hx (by simp)) (fun x hx => absurd hx (by simp)))).mono ?_; rintro e w14 ⟨rfl, hw14⟩; try go_wp2_with fail)
          refine hK.out _ _ ?hS126 (fun hHeld => ?_)
          case hS126 => (go_split_ands; (repeat' apply And.intro) <;> (first | assumption | exact pw_cell_below (by assumption) (by assumption) | exact below_step (by assumption) (by assumption) | exact below_drew1 (by assumption)))
          clear hK K
          try simp only [Act.put, List.setIfInBounds_toArray, List.set_cons_zero, List.set_cons_succ]
          refine wpAnyH_take (i := 10) (oi := { dst := some 76, op := _, type := _, pos := _, after := _, guard := _ }) (v := ?v127) rfl (by kernel_rfl) (by kernel_rfl) (by kernel_rfl) (fun _ _ _ h => h) (Or.inl ⟨by rfl, ?hy127⟩) (by assumption) ?r127
          case hy127 => (intro w hSw; (try dsimp only at hSw); first | (go_simp; done) | (go_simp; with_reducible rfl))
          try simp only [Act.put, List.setIfInBounds_toArray, List.set_cons_zero, List.set_cons_succ]
          refine wpAnyH_take (i := 11) (oi := { dst := some 77, op := _, type := _, pos := _, after := _, guard := _ }) (v := ?v128) rfl (by kernel_rfl) (by kernel_rfl) (by kernel_rfl) (fun _ _ _ h => h) (Or.inl ⟨by rfl, ?hy128⟩) (by assumption) ?r128
          case hy128 => (intro w hSw; (try dsimp only at hSw); first | (go_simp; done) | (go_simp; with_reducible rfl))
          try simp only [Act.put, List.setIfInBounds_toArray, List.set_cons_zero, List.set_cons_succ]
          refine wpAnyH_take (i := 12) (oi := { dst := some 78, op := _, type := _, pos := _, after := _, guard := _ }) (v := ?v129) rfl (by kernel_rfl) (by kernel_rfl) (by kernel_rfl) (fun _ _ _ h => h) (Or.inl ⟨by rfl, ?hy129⟩) (by assumption) ?r129
          case hy129 => (intro w hSw; (try dsimp only at hSw); first | (go_simp; done) | (go_simp; with_reducible rfl))
          try simp only [Act.put, List.setIfInBounds_toArray, List.set_cons_zero, List.set_cons_succ]
          refine wpAnyH_take (i := 13) (oi := { dst := some 79, op := _, type := _, pos := _, after := _, guard := _ }) (v := ?v130) rfl (by kernel_rfl) (by kernel_rfl) (by kernel_rfl) (fun _ _ _ h => h) (Or.inl ⟨by rfl, ?hy130⟩) (by assumption) ?r130
          case hy130 => (intro w hSw; (try dsimp only at hSw); first | (go_simp; done) | (go_simp; with_reducible rfl))
          try simp only [Act.put, List.setIfInBounds_toArray, List.set_cons_zero, List.set_cons_succ]
          refine wpAnyH_take (i := 14) (oi := { dst := some 80, op := _, type := _, pos := _, after := _, guard := _ }) (v := ?v131) rfl (by kernel_rfl) (by kernel_rfl) (by kernel_rfl) (fun _ _ _ h => h) (Or.inl ⟨by rfl, ?hy131⟩) (by assumption) ?r131
          case hy131 => (intro w hSw; (try dsimp only at hSw); first | (go_simp; done) | (go_simp; with_reducible rfl))
          try simp only [Act.put, List.setIfInBounds_toArray, List.set_cons_zero, List.set_cons_succ]
          refine wpAnyH_ready (rs := [15]) (by kernel_rfl) (by simp) ?_
          refine AllReadyH.cons (o := { dst := some 81, op := _, type := _, pos := _, after := _, guard := _ }) rfl (fun K hK => ?_) AllReadyH.nil
          go_simp
          (go_at_call 10; refine (as_bool HG.out.symm (grey_K a.f1 _ a.f3 _ (HM.out.below (by go_split_ands; assumption)) (KS.out _ (by go_split_ands; assumption)) B1.out B2.out)).mono ?_; rintro e w14 ⟨rfl, hw14⟩; try go_wp2_with fail)
          refine hK.out _ _ ?hS132 (fun hHeld => ?_)
          case hS132 => (go_split_ands; (repeat' apply And.intro) <;> (first | assumption | exact pw_cell_below (by assumption) (by assumption) | exact below_step (by assumption) (by assumption) | exact below_drew1 (by assumption)))
          clear hK K
          try simp only [Act.put, List.setIfInBounds_toArray, List.set_cons_zero, List.set_cons_succ]
          refine wpAnyH_take (i := 16) (oi := { dst := some 82, op := _, type := _, pos := _, after := _, guard := _ }) (v := ?v133) rfl (by kernel_rfl) (by kernel_rfl) (by kernel_rfl) (fun _ _ _ h => h) (Or.inl ⟨by rfl, ?hy133⟩) (by assumption) ?r133
          case hy133 => (intro w hSw; (try dsimp only at hSw); first | (go_simp; done) | (go_simp; with_reducible rfl))
          try simp only [Act.put, List.setIfInBounds_toArray, List.set_cons_zero, List.set_cons_succ]
          refine wpAnyH_take (i := 17) (oi := { dst := some 83, op := _, type := _, pos := _, after := _, guard := _ }) (v := ?v134) rfl (by kernel_rfl) (by kernel_rfl) (by kernel_rfl) (fun _ _ _ h => h) (Or.inl ⟨by rfl, ?hy134⟩) (by assumption) ?r134
          case hy134 => (intro w hSw; (try dsimp only at hSw); first | (go_simp; done) | (go_simp; with_reducible rfl))
          try simp only [Act.put, List.setIfInBounds_toArray, List.set_cons_zero, List.set_cons_succ]
          refine wpAnyH_take (i := 18) (oi := { dst := some 84, op := _, type := _, pos := _, after := _, guard := _ }) (v := ?v135) rfl (by kernel_rfl) (by kernel_rfl) (by kernel_rfl) (fun _ _ _ h => h) (Or.inl ⟨by rfl, ?hy135⟩) (by assumption) ?r135
          case hy135 => (intro w hSw; (try dsimp only at hSw); first | (go_simp; done) | (go_simp; with_reducible rfl))
          try simp only [Act.put, List.setIfInBounds_toArray, List.set_cons_zero, List.set_cons_succ]
          refine wpAnyH_ready (rs := [19]) (by kernel_rfl) (by simp) ?_
          refine AllReadyH.cons (o := { dst := some 85, op := _, type := _, pos := _, after := _, guard := _ }) rfl (fun K hK => ?_) AllReadyH.nil
          go_simp
          (go_at_call 7; refine (alive20 _ (HM.out.below (by go_split_ands; assumption))).mono ?_; rintro e w14 ⟨rfl, hw14⟩; try go_wp2_with fail)
          refine hK.out _ _ ?hS136 (fun hHeld => ?_)
          case hS136 => (go_split_ands; (repeat' apply And.intro) <;> (first | assumption | exact pw_cell_below (by assumption) (by assumption) | exact below_step (by assumption) (by assumption) | exact below_drew1 (by assumption)))
          clear hK K
          try simp only [Act.put, List.setIfInBounds_toArray, List.set_cons_zero, List.set_cons_succ]
          refine wpAnyH_take (i := 20) (oi := { dst := some 86, op := _, type := _, pos := _, after := _, guard := _ }) (v := ?v137) rfl (by kernel_rfl) (by kernel_rfl) (by kernel_rfl) (fun _ _ _ h => h) (Or.inl ⟨by rfl, ?hy137⟩) (by assumption) ?r137
          case hy137 => (intro w hSw; (try dsimp only at hSw); first | (go_simp; done) | (go_simp; with_reducible rfl))
          try simp only [Act.put, List.setIfInBounds_toArray, List.set_cons_zero, List.set_cons_succ]
          refine wpAnyH_take (i := 21) (oi := { dst := some 6, op := _, type := _, pos := _, after := _, guard := _ }) (v := ?v138) rfl (by kernel_rfl) (by kernel_rfl) (by kernel_rfl) (fun _ _ _ h => h) (Or.inl ⟨by rfl, ?hy138⟩) (by assumption) ?r138
          case hy138 => (intro w hSw; (try dsimp only at hSw); first | (go_simp; done) | (go_simp; with_reducible rfl))
          try simp only [Act.put, List.setIfInBounds_toArray, List.set_cons_zero, List.set_cons_succ]
          refine wpAnyH_done (by kernel_rfl) ?_ _
          go_wp2
          go_ret
          exact ⟨rfl, by go_split_ands; assumption⟩
      | false =>
       cases has with
       | true =>
        go_wp2_with (first
          | (with_reducible refine ev_load rfl 25 (.tmp 7) rfl _ _ rfl HB5.out sp.toList LS.out U25.out rfl I25.out ?_)
          | ((with_reducible refine gate_dst (N := 9) rfl ?_); refine box_event ?hg (N := 9) ?hd (cs := #[.string ⟨#[]⟩, .bool false, .bool false, .slice none 0 0, .slice none 0 0, .slice none 0 0, .slice none 0 0]) (t := 25) ?hr ?_; (case hd => rfl); (case hg => rfl); (case hr => first | (go_simp; done) | (go_simp; rfl)); intro g9 hg_ w6 hb_ hw_; have HC6 := Lib.hid hb_; have HG9 := Lib.hid (show w.heap.size ≤ g9 by have := HW5.out.size; omega); have HA6 := Lib.hid (blk_below HA5.out hw_); have HB6 := Lib.hid (blk_below HB5.out hw_); have HW6 := Lib.hid (below_then HW5.out HW5.out.size hw_); have N9 := Lib.hid (show g0 ≠ g9 by have := blk_lt HA5.out; omega); have N79 := Lib.hid (show g7 ≠ g9 by have := blk_lt HB5.out; omega); clear hb_ hw_ hg_)
          | (with_reducible refine ev_store_all rfl rfl 25 (.tmp 9) (.tmp 28) rfl _ rfl sp rfl HC6.out SZ.out I25a.out ONE.out ?_; intro w7 hb_ ho_; have HC7 := Lib.hid hb_; have HA7 := Lib.hid (ho_.blk HA6.out N9.out); have HB7 := Lib.hid (ho_.blk HB6.out N79.out); have HW7 := Lib.hid (below_only HW6.out ho_ (fun i hi => by rw [hi]; exact HG9.out)); clear hb_ ho_)
          | ((with_reducible refine gate_dst (N := 37) rfl ?_); refine Kd.R_lit Kd.string w.heap.size 9 ?hg (N := 37) ?hd (xs := [dir]) (inner := [.string dir]) (ok := fun k => w7.heap.size ≤ k) (okp := fun k => w7.heap.size ≤ k) (w0 := w) ?hr ⟨rfl, ?hrep⟩ (fun _ h => h) (Nat.le_refl _) ?hB ?hbase (by simp) ?_; (case hg => rfl); (case hd => rfl); (case hr => first | (go_simp; done) | (go_simp; rfl)); (case hrep => intro j p hj; match j, hj with | 0, hj => (obtain rfl : dir = p := (by simpa using hj)); rfl); (case hB => exact HW7.out); (case hbase => exact HW7.out.size); intro v8 w8 hR8 hB8 hg8 hown8; have HR8 := Lib.hid hR8; have O8 := Lib.hid hown8; have HA8 := Lib.hid ((only_grown hg8).blk HA7.out (by simp)); have HB8 := Lib.hid ((only_grown hg8).blk HB7.out (by simp)); have HC8 := Lib.hid ((only_grown hg8).blk HC7.out (by simp)); have HW8 := Lib.hid (below_only HW7.out (only_grown hg8) (by simp)); have SZ8 := Lib.hid (show w7.heap.size ≤ w8.heap.size from hg8.size); have c4 := cell_blk HB8.out F3.out; clear hR8 hB8 hg8 hown8)
          | (at_builtin; have c4' := Lib.hid c4; clear c4; refine Kd.R_append_row Value.string ByteArray.empty (w0 := w) w.heap.size rfl _ _ 22 9 (.string ⟨#[]⟩) 16 rfl Tryd.underlying22 (by kernel_rfl) rfl (by decide) v8 [dir] a.f0.f3 A3 a.f0.f3.length c3 (fun k => w7.heap.size ≤ k) rfl rfl (fun k hk => Nat.le_trans SZ8.out hk) HR8.out (Kd.C_below G3.out.2 HW8.out) HW8.out HW8.out.size (by have := Z3.out; simp; omega) ?_; intro v9 w9 hR9 hB9 hg9 hat9; obtain ⟨A9, c9, rfl, l9, g9'⟩ := Kd.R_reads hR9; have HR9 := Lib.hid hR9; have NE := Lib.hid (show ∀ g, g < w7.heap.size → ¬ (some g = v8.ownBlock) from fun g hg he => by obtain ⟨b, hb1, hb2⟩ := O8.out; rw [hb1] at he; injection he with he; omega); have HA9 := Lib.hid ((only_grown hg9).blk HA8.out (NE.out _ (blk_lt HA7.out))); have HB9 := Lib.hid ((only_grown hg9).blk HB8.out (NE.out _ (blk_lt HB7.out))); have HC9 := Lib.hid ((only_grown hg9).blk HC8.out (NE.out _ (blk_lt HC7.out))); have HW9 := Lib.hid hB9; clear hR9 hB9 hg9 hat9 l9 g9')
          | ((with_reducible refine gate_store (t := 22) (p := 41) rfl ?_); refine ev_store_cell rfl rfl g9 3 (.slice A9 (a.f0.f3.length + 1) c9) HC9.out ?hst ?_; (case hst => (have f1 := cell_blk HC9.out F3.out; have f2 := blk_frozen HC9.out 3; first | (go_simp; done) | (go_simp; rfl))); intro w10 hb10 ho10; obtain ⟨sp9, hs9⟩ : ∃ x, x = sp.setIfInBounds 3 (.slice A9 (a.f0.f3.length + 1) c9) := ⟨_, rfl⟩; rw [← hs9] at hb10; have HS9 := Lib.hid hs9; clear hs9; have HC10 := Lib.hid hb10; have HA10 := Lib.hid (ho10.blk HA9.out N9.out); have HB10 := Lib.hid (ho10.blk HB9.out N79.out); have HO10 := Lib.hid ho10; have HW10 := Lib.hid (below_only HW9.out ho10 (fun i hi => by rw [hi]; exact HG9.out)); have c14 := cell_blk HA10.out E14.out; have c15 := cell_blk HA10.out E15.out; have HR10 := Kd.R_step HR9.out (fun k hk hlt => HO10.out.block k hlt (fun he => by have h1 := blk_lt HC7.out; have h2 : w7.heap.size ≤ k := hk; omega)); have HL9 := Lib.hid (R_C HR10); have KM := Lib.hid (show k25.K w10 ⟨a.f0.f0, a.f0.f1, a.f0.f2, [dir] ++ a.f0.f3, a.f0.f4, a.f0.f5, a.f0.f6⟩ sp9.toList by rw [HS9.out, SPE.out]; exact k25_mk w10 ⟨a.f0.f0, a.f0.f1, a.f0.f2, [dir] ++ a.f0.f3, a.f0.f4, a.f0.f5, a.f0.f6⟩ HL9.out.1 HL9.out.2 G4.out.1 (Kd.C_below G4.out.2 HW10.out) G5.out.1 (Kd.C_below G5.out.2 HW10.out) G6.out.1 (Kd.C_below G6.out.2 HW10.out)); have IM : Hid ((Tryd.prog.info? 25).map (·.size) = some sp9.toList.length) := (by show _ = _; rw [HS9.out, Array.length_toList, Array.size_setIfInBounds]; exact I25a.out); clear HR10 hb10 ho10)
          | (with_reducible refine ev_load rfl 25 (.tmp 9) rfl _ _ rfl HC10.out sp9.toList (take0 _) U25.out rfl IM.out ?_)
          | (with_reducible refine ev_load rfl 28 (.tmp 45) rfl _ _ rfl HA10.out st.toList L2.out U28.out rfl I28.out ?_)
          | (go_at_call 9; refine (as_bool (acc_more_search HAS.out.symm) (acc_K ⟨a.f0.f0, a.f0.f1, a.f0.f2, [dir] ++ a.f0.f3, a.f0.f4, a.f0.f5, a.f0.f6⟩ a.f1 sp9 st first a.f3 _ (HM.out.below HW10.out) KM.out (k28.K_below HW10.out HST.out) B1.out B2.out (mem_more B5.out B3.out) B4.out)).mono ?_; rintro e w11 ⟨rfl, hw11⟩; have HB11 := Lib.hid (blk_below HB10.out hw11); have HA11 := Lib.hid (blk_below HA10.out hw11); have HW11 := Lib.hid (below_then HW10.out HW10.out.size hw11); clear c14 c15 hw11; have c0 := cell_blk HB11.out F0.out; have c1 := cell_blk HB11.out F1.out)
          | ((with_reducible refine gate_dst (N := 10) rfl ?_); refine box_event ?hg (N := 10) ?hd (cs := #[.string ⟨#[]⟩, .bool false, .bool false, .slice none 0 0, .slice none 0 0, .slice none 0 0, .slice none 0 0]) (t := 25) ?hr ?_; (case hd => rfl); (case hg => rfl); (case hr => first | (go_simp; done) | (go_simp; rfl)); intro g10 hg_ w12 hb_ hw_; have HX12 := Lib.hid hb_; have HG10 := Lib.hid (show w.heap.size ≤ g10 by have := HW11.out.size; omega); have HA12 := Lib.hid (blk_below HA11.out hw_); have HW12 := Lib.hid (below_then HW11.out HW11.out.size hw_); have N10 := Lib.hid (show g0 ≠ g10 by have := blk_lt HA11.out; omega); clear hb_ hw_ hg_)
          | (with_reducible refine ev_store_all rfl rfl 25 (.tmp 10) (.tmp 65) rfl _ rfl #[.string a.f0.f0, .bool true, .bool false, .slice none 0 0, .slice none 0 0, .slice none 0 0, .slice none 0 0] rfl HX12.out SZB.out I25b.out ONEB.out ?_; intro w13 hb_ ho_; have HX13 := Lib.hid hb_; have HA13 := Lib.hid (ho_.blk HA12.out N10.out); have HW13 := Lib.hid (below_only HW12.out ho_ (fun i hi => by rw [hi]; exact HG10.out)); clear c0 c1; clear hb_ ho_))
        next =>
          obtain ⟨G, hG⟩ : ∃ G, G = polGrey a.f1.f1 a.f1.f3 a.f1.f2 a.f1.f4 a.f3 := ⟨_, rfl⟩
          have HG := Lib.hid hG
          clear hG
          have eqG : (G == G) = true := by simp
          have MB : Hid (k25.K w13 (⟨a.f0.f0, true, false, [], [], [], []⟩ : S25) #[.string a.f0.f0, .bool true, .bool false, .slice none 0 0, .slice none 0 0, .slice none 0 0, .slice none 0 0].toList) := bare_K w13 a.f0.f0
          have KB := Lib.hid (fun W' (h : Below w.heap.size w W') => bare_K W' a.f0.f0)
          have KS := Lib.hid (fun W' (h : Below w.heap.size w W') => k28.K_below h HSTL.out)
          have d_g10_0 := cell_blk HX13.out (j := 0) rfl
          have d_g10_1 := cell_blk HX13.out (j := 1) rfl
          have d_g10_2 := cell_blk HX13.out (j := 2) rfl
          have d_g10_3 := cell_blk HX13.out (j := 3) rfl
          have d_g10_4 := cell_blk HX13.out (j := 4) rfl
          have d_g10_5 := cell_blk HX13.out (j := 5) rfl
          have d_g10_6 := cell_blk HX13.out (j := 6) rfl
          have d_g0_7 := cell_blk HA13.out (j := 7) E7.out
          have d_g0_8 := cell_blk HA13.out (j := 8) E8.out
          have d_g0_9 := cell_blk HA13.out (j := 9) E9.out
          have d_g0_10 := cell_blk HA13.out (j := 10) E10.out
          have d_g0_11 := cell_blk HA13.out (j := 11) E11.out
          have d_g0_12 := cell_blk HA13.out (j := 12) E12.out
          have d_g0_13 := cell_blk HA13.out (j := 13) E13.out
          have d_g0_14 := cell_blk HA13.out (j := 14) E14.out
          have d_g0_15 := cell_blk HA13.out (j := 15) E15.out
          cases first with
          | false =>
            have hbel := HW13.out
            refine wp_region_held_drew (S := fun w' => w'.cell? ⟨g10, 0, none⟩ = some (.string a.f0.f0) ∧ w'.cell? ⟨g10, 1, none⟩ = some (.bool true) ∧ w'.cell? ⟨g10, 2, none⟩ = some (.bool false) ∧ w'.cell? ⟨g10, 3, none⟩ = some (.slice none 0 0) ∧ w'.cell? ⟨g10, 4, none⟩ = some (.slice none 0 0) ∧ w'.cell? ⟨g10, 5, none⟩ = some (.slice none 0 0) ∧ w'.cell? ⟨g10, 6, none⟩ = some (.slice none 0 0) ∧ w'.cell? ⟨g0, 7, none⟩ = some (.int .u16 a.f1.f0) ∧ w'.cell? ⟨g0, 8, none⟩ = some (.int .i64 a.f1.f1) ∧ w'.cell? ⟨g0, 9, none⟩ = some (.slice A2 a.f1.f2.length c2) ∧ w'.cell? ⟨g0, 10, none⟩ = some (.int .i64 a.f1.f3) ∧ w'.cell? ⟨g0, 11, none⟩ = some (.string a.f1.f4) ∧ w'.cell? ⟨g0, 12, none⟩ = some (.int .i64 a.f1.f5) ∧ w'.cell? ⟨g0, 13, none⟩ = some (.int .i64 a.f1.f6) ∧ w'.cell? ⟨g0, 14, none⟩ = some (.bool false) ∧ w'.cell? ⟨g0, 15, none⟩ = some (.string a.f3) ∧ Below w.heap.size w w') (by kernel_rfl) ?hS139 (fun hHeld => ?_)
            case hS139 => (go_split_ands; (repeat' apply And.intro) <;> (first | assumption | exact pw_cell_below (by assumption) (by assumption) | exact below_step (by assumption) (by assumption) | exact below_drew1 (by assumption)))
            refine wpAnyH_take (i := 0) (oi := { dst := some 66, op := _, type := _, pos := _, after := _, guard := _ }) (v := ?v140) rfl (by kernel_rfl) (by kernel_rfl) (by kernel_rfl) (fun _ _ _ h => h) (Or.inl ⟨by rfl, ?hy140⟩) (by assumption) ?r140
            case hy140 => (intro w hSw; (try dsimp only at hSw); first | (go_simp; done) | (go_simp; with_reducible rfl))
            try simp only [Act.put, List.setIfInBounds_toArray, List.set_cons_zero, List.set_cons_succ]
            refine wpAnyH_take (i := 1) (oi := { dst := some 67, op := _, type := _, pos := _, after := _, guard := _ }) (v := ?v141) rfl (by kernel_rfl) (by kernel_rfl) (by kernel_rfl) (fun _ _ _ h => h) (Or.inl ⟨by rfl, ?hy141⟩) (by assumption) ?r141
            case hy141 => (intro w hSw; (try dsimp only at hSw); first | (go_simp; done) | (go_simp; with_reducible rfl))
            try simp only [Act.put, List.setIfInBounds_toArray, List.set_cons_zero, List.set_cons_succ]
            refine wpAnyH_take (i := 2) (oi := { dst := some 68, op := _, type := _, pos := _, after := _, guard := _ }) (v := ?v142) rfl (by kernel_rfl) (by kernel_rfl) (by kernel_rfl) (fun _ _ _ h => h) (Or.inl ⟨by rfl, ?hy142⟩) (by assumption) ?r142
            case hy142 => (intro w hSw; (try dsimp only at hSw); first | (go_simp; done) | (go_simp; with_reducible rfl))
            try simp only [Act.put, List.setIfInBounds_toArray, List.set_cons_zero, List.set_cons_succ]
            refine wpAnyH_take (i := 3) (oi := { dst := some 69, op := _, type := _, pos := _, after := _, guard := _ }) (v := ?v143) rfl (by kernel_rfl) (by kernel_rfl) (by kernel_rfl) (fun _ _ _ h => h) (Or.inl ⟨by rfl, ?hy143⟩) (by assumption) ?r143
            case hy143 => (intro w hSw; (try dsimp only at hSw); first | (go_simp; done) | (go_simp; with_reducible rfl))
            try simp only [Act.put, List.setIfInBounds_toArray, List.set_cons_zero, List.set_cons_succ]
            refine wpAnyH_take (i := 4) (oi := { dst := some 70, op := _, type := _, pos := _, after := _, guard := _ }) (v := ?v144) rfl (by kernel_rfl) (by kernel_rfl) (by kernel_rfl) (fun _ _ _ h => h) (Or.inl ⟨by rfl, ?hy144⟩) (by assumption) ?r144
            case hy144 => (intro w hSw; (try dsimp only at hSw); first | (go_simp; done) | (go_simp; with_reducible rfl))
            try simp only [Act.put, List.setIfInBounds_toArray, List.set_cons_zero, List.set_cons_succ]
            refine wpAnyH_take (i := 5) (oi := { dst := some 71, op := _, type := _, pos := _, after := _, guard := _ }) (v := ?v145) rfl (by kernel_rfl) (by kernel_rfl) (by kernel_rfl) (fun _ _ _ h => h) (Or.inl ⟨by rfl, ?hy145⟩) (by assumption) ?r145
            case hy145 => (intro w hSw; (try dsimp only at hSw); first | (go_simp; done) | (go_simp; with_reducible rfl))
            try simp only [Act.put, List.setIfInBounds_toArray, List.set_cons_zero, List.set_cons_succ]
            refine wpAnyH_take (i := 6) (oi := { dst := some 72, op := _, type := _, pos := _, after := _, guard := _ }) (v := ?v146) rfl (by kernel_rfl) (by kernel_rfl) (by kernel_rfl) (fun _ _ _ h => h) (Or.inl ⟨by rfl, ?hy146⟩) (by assumption) ?r146
            case hy146 => (intro w hSw; (try dsimp only at hSw); first | (go_simp; done) | (go_simp; with_reducible rfl))
            try simp only [Act.put, List.setIfInBounds_toArray, List.set_cons_zero, List.set_cons_succ]
            refine wpAnyH_take (i := 8) (oi := { dst := some 74, op := _, type := _, pos := _, after := _, guard := _ }) (v := ?v147) rfl (by kernel_rfl) (by kernel_rfl) (by kernel_rfl) (fun _ _ _ h => h) (Or.inl ⟨by rfl, ?hy147⟩) (by assumption) ?r147
            case hy147 => (intro w hSw; (try dsimp only at hSw); first | (go_simp; done) | (go_simp; with_reducible rfl))
            try simp only [Act.put, List.setIfInBounds_toArray, List.set_cons_zero, List.set_cons_succ]
            refine wpAnyH_take (i := 9) (oi := { dst := some 75, op := _, type := _, pos := _, after := _, guard := _ }) (v := ?v148) rfl (by kernel_rfl) (by kernel_rfl) (by kernel_rfl) (fun _ _ _ h => h) (Or.inl ⟨by rfl, ?hy148⟩) (by assumption) ?r148
            case hy148 => (intro w hSw; (try dsimp only at hSw); first | (go_simp; done) | (go_simp; with_reducible rfl))
            try simp only [Act.put, List.setIfInBounds_toArray, List.set_cons_zero, List.set_cons_succ]
            refine wpAnyH_ready (rs := [7]) (by kernel_rfl) (by simp) ?_
            refine AllReadyH.cons (o := { dst := some 73, op := _, type := _, pos := _, after := _, guard := _ }) rfl (fun K hK => ?_) AllReadyH.nil
            go_simp
            (go_at_call 9; refine (as_bool ((acc_bare false _ _).trans (rfl : (false && _) = false)) (acc_K _ a.f1 _ _ false a.f3 _ (HM.out.below (by go_split_ands; assumption)) (KB.out _ (by go_split_ands; assumption)) (KS.out _ (by go_split_ands; assumption)) B1.out B2.out (fun x hx => absurd hx (by simp)) (fun x hx => absurd hx (by simp)))).mono ?_; rintro e w14 ⟨rfl, hw14⟩; try go_wp2_with fail)
            refine hK.out _ _ ?hS149 (fun hHeld => ?_)
            case hS149 => (go_split_ands; (repeat' apply And.intro) <;> (first | assumption | exact pw_cell_below (by assumption) (by assumption) | exact below_step (by assumption) (by assumption) | exact below_drew1 (by assumption)))
            clear hK K
            try simp only [Act.put, List.setIfInBounds_toArray, List.set_cons_zero, List.set_cons_succ]
            refine wpAnyH_take (i := 10) (oi := { dst := some 76, op := _, type := _, pos := _, after := _, guard := _ }) (v := ?v150) rfl (by kernel_rfl) (by kernel_rfl) (by kernel_rfl) (fun _ _ _ h => h) (Or.inl ⟨by rfl, ?hy150⟩) (by assumption) ?r150
            case hy150 => (intro w hSw; (try dsimp only at hSw); first | (go_simp; done) | (go_simp; with_reducible rfl))
            try simp only [Act.put, List.setIfInBounds_toArray, List.set_cons_zero, List.set_cons_succ]
            refine wpAnyH_take (i := 11) (oi := { dst := some 77, op := _, type := _, pos := _, after := _, guard := _ }) (v := undef) rfl (by kernel_rfl) (by kernel_rfl) (by kernel_rfl) (fun _ _ _ h => h) (Or.inr ⟨by rfl, rfl⟩) (by assumption) ?r151
            try simp only [Act.put, List.setIfInBounds_toArray, List.set_cons_zero, List.set_cons_succ]
            refine wpAnyH_take (i := 12) (oi := { dst := some 78, op := _, type := _, pos := _, after := _, guard := _ }) (v := undef) rfl (by kernel_rfl) (by kernel_rfl) (by kernel_rfl) (fun _ _ _ h => h) (Or.inr ⟨by rfl, rfl⟩) (by assumption) ?r152
            try simp only [Act.put, List.setIfInBounds_toArray, List.set_cons_zero, List.set_cons_succ]
            refine wpAnyH_take (i := 13) (oi := { dst := some 79, op := _, type := _, pos := _, after := _, guard := _ }) (v := undef) rfl (by kernel_rfl) (by kernel_rfl) (by kernel_rfl) (fun _ _ _ h => h) (Or.inr ⟨by rfl, rfl⟩) (by assumption) ?r153
            try simp only [Act.put, List.setIfInBounds_toArray, List.set_cons_zero, List.set_cons_succ]
            refine wpAnyH_take (i := 14) (oi := { dst := some 80, op := _, type := _, pos := _, after := _, guard := _ }) (v := undef) rfl (by kernel_rfl) (by kernel_rfl) (by kernel_rfl) (fun _ _ _ h => h) (Or.inr ⟨by rfl, rfl⟩) (by assumption) ?r154
            try simp only [Act.put, List.setIfInBounds_toArray, List.set_cons_zero, List.set_cons_succ]
            refine wpAnyH_take (i := 15) (oi := { dst := some 81, op := _, type := _, pos := _, after := _, guard := _ }) (v := undef) rfl (by kernel_rfl) (by kernel_rfl) (by kernel_rfl) (fun _ _ _ h => h) (Or.inr ⟨by rfl, rfl⟩) (by assumption) ?r155
            try simp only [Act.put, List.setIfInBounds_toArray, List.set_cons_zero, List.set_cons_succ]
            refine wpAnyH_take (i := 16) (oi := { dst := some 82, op := _, type := _, pos := _, after := _, guard := _ }) (v := ?v156) rfl (by kernel_rfl) (by kernel_rfl) (by kernel_rfl) (fun _ _ _ h => h) (Or.inl ⟨by rfl, ?hy156⟩) (by assumption) ?r156
            case hy156 => (intro w hSw; (try dsimp only at hSw); first | (go_simp; done) | (go_simp; with_reducible rfl))
            try simp only [Act.put, List.setIfInBounds_toArray, List.set_cons_zero, List.set_cons_succ]
            refine wpAnyH_take (i := 17) (oi := { dst := some 83, op := _, type := _, pos := _, after := _, guard := _ }) (v := ?v157) rfl (by kernel_rfl) (by kernel_rfl) (by kernel_rfl) (fun _ _ _ h => h) (Or.inl ⟨by rfl, ?hy157⟩) (by assumption) ?r157
            case hy157 => (intro w hSw; (try dsimp only at hSw); first | (go_simp; done) | (go_simp; with_reducible rfl))
            try simp only [Act.put, List.setIfInBounds_toArray, List.set_cons_zero, List.set_cons_succ]
            refine wpAnyH_take (i := 18) (oi := { dst := some 84, op := _, type := _, pos := _, after := _, guard := _ }) (v := ?v158) rfl (by kernel_rfl) (by kernel_rfl) (by kernel_rfl) (fun _ _ _ h => h) (Or.inl ⟨by rfl, ?hy158⟩) (by assumption) ?r158
            case hy158 => (intro w hSw; (try dsimp only at hSw); first | (go_simp; done) | (go_simp; with_reducible rfl))
            try simp only [Act.put, List.setIfInBounds_toArray, List.set_cons_zero, List.set_cons_succ]
            refine wpAnyH_ready (rs := [19]) (by kernel_rfl) (by simp) ?_
            refine AllReadyH.cons (o := { dst := some 85, op := _, type := _, pos := _, after := _, guard := _ }) rfl (fun K hK => ?_) AllReadyH.nil
            go_simp
            (go_at_call 7; refine (alive20 _ (HM.out.below (by go_split_ands; assumption))).mono ?_; rintro e w14 ⟨rfl, hw14⟩; try go_wp2_with fail)
            refine hK.out _ _ ?hS159 (fun hHeld => ?_)
            case hS159 => (go_split_ands; (repeat' apply And.intro) <;> (first | assumption | exact pw_cell_below (by assumption) (by assumption) | exact below_step (by assumption) (by assumption) | exact below_drew1 (by assumption)))
            clear hK K
            try simp only [Act.put, List.setIfInBounds_toArray, List.set_cons_zero, List.set_cons_succ]
            refine wpAnyH_take (i := 20) (oi := { dst := some 86, op := _, type := _, pos := _, after := _, guard := _ }) (v := ?v160) rfl (by kernel_rfl) (by kernel_rfl) (by kernel_rfl) (fun _ _ _ h => h) (Or.inl ⟨by rfl, ?hy160⟩) (by assumption) ?r160
            case hy160 => (intro w hSw; (try dsimp only at hSw); first | (go_simp; done) | (go_simp; with_reducible rfl))
            try simp only [Act.put, List.setIfInBounds_toArray, List.set_cons_zero, List.set_cons_succ]
            refine wpAnyH_take (i := 21) (oi := { dst := some 6, op := _, type := _, pos := _, after := _, guard := _ }) (v := ?v161) rfl (by kernel_rfl) (by kernel_rfl) (by kernel_rfl) (fun _ _ _ h => h) (Or.inl ⟨by rfl, ?hy161⟩) (by assumption) ?r161
            case hy161 => (intro w hSw; (try dsimp only at hSw); first | (go_simp; done) | (go_simp; with_reducible rfl))
            try simp only [Act.put, List.setIfInBounds_toArray, List.set_cons_zero, List.set_cons_succ]
            refine wpAnyH_done (by kernel_rfl) ?_ _
            go_wp2
            go_ret
            exact ⟨rfl, by go_split_ands; assumption⟩
          | true =>
            have hbel := HW13.out
            refine wp_region_held_drew (S := fun w' => w'.cell? ⟨g10, 0, none⟩ = some (.string a.f0.f0) ∧ w'.cell? ⟨g10, 1, none⟩ = some (.bool true) ∧ w'.cell? ⟨g10, 2, none⟩ = some (.bool false) ∧ w'.cell? ⟨g10, 3, none⟩ = some (.slice none 0 0) ∧ w'.cell? ⟨g10, 4, none⟩ = some (.slice none 0 0) ∧ w'.cell? ⟨g10, 5, none⟩ = some (.slice none 0 0) ∧ w'.cell? ⟨g10, 6, none⟩ = some (.slice none 0 0) ∧ w'.cell? ⟨g0, 7, none⟩ = some (.int .u16 a.f1.f0) ∧ w'.cell? ⟨g0, 8, none⟩ = some (.int .i64 a.f1.f1) ∧ w'.cell? ⟨g0, 9, none⟩ = some (.slice A2 a.f1.f2.length c2) ∧ w'.cell? ⟨g0, 10, none⟩ = some (.int .i64 a.f1.f3) ∧ w'.cell? ⟨g0, 11, none⟩ = some (.string a.f1.f4) ∧ w'.cell? ⟨g0, 12, none⟩ = some (.int .i64 a.f1.f5) ∧ w'.cell? ⟨g0, 13, none⟩ = some (.int .i64 a.f1.f6) ∧ w'.cell? ⟨g0, 14, none⟩ = some (.bool true) ∧ w'.cell? ⟨g0, 15, none⟩ = some (.string a.f3) ∧ Below w.heap.size w w') (by kernel_rfl) ?hS162 (fun hHeld => ?_)
            case hS162 => (go_split_ands; (repeat' apply And.intro) <;> (first | assumption | exact pw_cell_below (by assumption) (by assumption) | exact below_step (by assumption) (by assumption) | exact below_drew1 (by assumption)))
            refine wpAnyH_take (i := 0) (oi := { dst := some 66, op := _, type := _, pos := _, after := _, guard := _ }) (v := ?v163) rfl (by kernel_rfl) (by kernel_rfl) (by kernel_rfl) (fun _ _ _ h => h) (Or.inl ⟨by rfl, ?hy163⟩) (by assumption) ?r163
            case hy163 => (intro w hSw; (try dsimp only at hSw); first | (go_simp; done) | (go_simp; with_reducible rfl))
            try simp only [Act.put, List.setIfInBounds_toArray, List.set_cons_zero, List.set_cons_succ]
            refine wpAnyH_take (i := 1) (oi := { dst := some 67, op := _, type := _, pos := _, after := _, guard := _ }) (v := ?v164) rfl (by kernel_rfl) (by kernel_rfl) (by kernel_rfl) (fun _ _ _ h => h) (Or.inl ⟨by rfl, ?hy164⟩) (by assumption) ?r164
            case hy164 => (intro w hSw; (try dsimp only at hSw); first | (go_simp; done) | (go_simp; with_reducible rfl))
            try simp only [Act.put, List.setIfInBounds_toArray, List.set_cons_zero, List.set_cons_succ]
            refine wpAnyH_take (i := 2) (oi := { dst := some 68, op := _, type := _, pos := _, after := _, guard := _ }) (v := ?v165) rfl (by kernel_rfl) (by kernel_rfl) (by kernel_rfl) (fun _ _ _ h => h) (Or.inl ⟨by rfl, ?hy165⟩) (by assumption) ?r165
            case hy165 => (intro w hSw; (try dsimp only at hSw); first | (go_simp; done) | (go_simp; with_reducible rfl))
            try simp only [Act.put, List.setIfInBounds_toArray, List.set_cons_zero, List.set_cons_succ]
            refine wpAnyH_take (i := 3) (oi := { dst := some 69, op := _, type := _, pos := _, after := _, guard := _ }) (v := ?v166) rfl (by kernel_rfl) (by kernel_rfl) (by kernel_rfl) (fun _ _ _ h => h) (Or.inl ⟨by rfl, ?hy166⟩) (by assumption) ?r166
            case hy166 => (intro w hSw; (try dsimp only at hSw); first | (go_simp; done) | (go_simp; with_reducible rfl))
            try simp only [Act.put, List.setIfInBounds_toArray, List.set_cons_zero, List.set_cons_succ]
            refine wpAnyH_take (i := 4) (oi := { dst := some 70, op := _, type := _, pos := _, after := _, guard := _ }) (v := ?v167) rfl (by kernel_rfl) (by kernel_rfl) (by kernel_rfl) (fun _ _ _ h => h) (Or.inl ⟨by rfl, ?hy167⟩) (by assumption) ?r167
            case hy167 => (intro w hSw; (try dsimp only at hSw); first | (go_simp; done) | (go_simp; with_reducible rfl))
            try simp only [Act.put, List.setIfInBounds_toArray, List.set_cons_zero, List.set_cons_succ]
            refine wpAnyH_take (i := 5) (oi := { dst := some 71, op := _, type := _, pos := _, after := _, guard := _ }) (v := ?v168) rfl (by kernel_rfl) (by kernel_rfl) (by kernel_rfl) (fun _ _ _ h => h) (Or.inl ⟨by rfl, ?hy168⟩) (by assumption) ?r168
            case hy168 => (intro w hSw; (try dsimp only at hSw); first | (go_simp; done) | (go_simp; with_reducible rfl))
            try simp only [Act.put, List.setIfInBounds_toArray, List.set_cons_zero, List.set_cons_succ]
            refine wpAnyH_take (i := 6) (oi := { dst := some 72, op := _, type := _, pos := _, after := _, guard := _ }) (v := ?v169) rfl (by kernel_rfl) (by kernel_rfl) (by kernel_rfl) (fun _ _ _ h => h) (Or.inl ⟨by rfl, ?hy169⟩) (by assumption) ?r169
            case hy169 => (intro w hSw; (try dsimp only at hSw); first | (go_simp; done) | (go_simp; with_reducible rfl))
            try simp only [Act.put, List.setIfInBounds_toArray, List.set_cons_zero, List.set_cons_succ]
            refine wpAnyH_take (i := 8) (oi := { dst := some 74, op := _, type := _, pos := _, after := _, guard := _ }) (v := ?v170) rfl (by kernel_rfl) (by kernel_rfl) (by kernel_rfl) (fun _ _ _ h => h) (Or.inl ⟨by rfl, ?hy170⟩) (by assumption) ?r170
            case hy170 => (intro w hSw; (try dsimp only at hSw); first | (go_simp; done) | (go_simp; with_reducible rfl))
            try simp only [Act.put, List.setIfInBounds_toArray, List.set_cons_zero, List.set_cons_succ]
            refine wpAnyH_take (i := 9) (oi := { dst := some 75, op := _, type := _, pos := _, after := _, guard := _ }) (v := ?v171) rfl (by kernel_rfl) (by kernel_rfl) (by kernel_rfl) (fun _ _ _ h => h) (Or.inl ⟨by rfl, ?hy171⟩) (by assumption) ?r171
            case hy171 => (intro w hSw; (try dsimp only at hSw); first | (go_simp; done) | (go_simp; with_reducible rfl))
            try simp only [Act.put, List.setIfInBounds_toArray, List.set_cons_zero, List.set_cons_succ]
            refine wpAnyH_ready (rs := [7]) (by kernel_rfl) (by simp) ?_
            refine AllReadyH.cons (o := { dst := some 73, op := _, type := _, pos := _, after := _, guard := _ }) rfl (fun K hK => ?_) AllReadyH.nil
            go_simp
            (go_at_call 9; refine (as_bool ((acc_bare true _ _).trans (by rw [← HG.out]; rfl : (true && _) = G)) (acc_K _ a.f1 _ _ true a.f3 _ (HM.out.below (by go_split_ands; assumption)) (KB.out _ (by go_split_ands; assumption)) (KS.out _ (by go_split_ands; assumption)) B1.out B2.out (fun x hx => absurd hx (by simp)) (fun x hx => absurd hx (by simp)))).mono ?_; rintro e w14 ⟨rfl, hw14⟩; try go_wp2_with fail)
            refine hK.out _ _ ?hS172 (fun hHeld => ?_)
            case hS172 => (go_split_ands; (repeat' apply And.intro) <;> (first | assumption | exact pw_cell_below (by assumption) (by assumption) | exact below_step (by assumption) (by assumption) | exact below_drew1 (by assumption)))
            clear hK K
            try simp only [Act.put, List.setIfInBounds_toArray, List.set_cons_zero, List.set_cons_succ]
            refine wpAnyH_take (i := 10) (oi := { dst := some 76, op := _, type := _, pos := _, after := _, guard := _ }) (v := ?v173) rfl (by kernel_rfl) (by kernel_rfl) (by kernel_rfl) (fun _ _ _ h => h) (Or.inl ⟨by rfl, ?hy173⟩) (by assumption) ?r173
            case hy173 => (intro w hSw; (try dsimp only at hSw); first | (go_simp; done) | (go_simp; with_reducible rfl))
            try simp only [Act.put, List.setIfInBounds_toArray, List.set_cons_zero, List.set_cons_succ]
            refine wpAnyH_take (i := 11) (oi := { dst := some 77, op := _, type := _, pos := _, after := _, guard := _ }) (v := ?v174) rfl (by kernel_rfl) (by kernel_rfl) (by kernel_rfl) (fun _ _ _ h => h) (Or.inl ⟨by rfl, ?hy174⟩) (by assumption) ?r174
            case hy174 => (intro w hSw; (try dsimp only at hSw); first | (go_simp; done) | (go_simp; with_reducible rfl))
            try simp only [Act.put, List.setIfInBounds_toArray, List.set_cons_zero, List.set_cons_succ]
            refine wpAnyH_take (i := 12) (oi := { dst := some 78, op := _, type := _, pos := _, after := _, guard := _ }) (v := ?v175) rfl (by kernel_rfl) (by kernel_rfl) (by kernel_rfl) (fun _ _ _ h => h) (Or.inl ⟨by rfl, ?hy175⟩) (by assumption) ?r175
            case hy175 => (intro w hSw; (try dsimp only at hSw); first | (go_simp; done) | (go_simp; with_reducible rfl))
            try simp only [Act.put, List.setIfInBounds_toArray, List.set_cons_zero, List.set_cons_succ]
            refine wpAnyH_take (i := 13) (oi := { dst := some 79, op := _, type := _, pos := _, after := _, guard := _ }) (v := ?v176) rfl (by kernel_rfl) (by kernel_rfl) (by kernel_rfl) (fun _ _ _ h => h) (Or.inl ⟨by rfl, ?hy176⟩) (by assumption) ?r176
            case hy176 => (intro w hSw; (try dsimp only at hSw); first | (go_simp; done) | (go_simp; with_reducible rfl))
            try simp only [Act.put, List.setIfInBounds_toArray, List.set_cons_zero, List.set_cons_succ]
            refine wpAnyH_take (i := 14) (oi := { dst := some 80, op := _, type := _, pos := _, after := _, guard := _ }) (v := ?v177) rfl (by kernel_rfl) (by kernel_rfl) (by kernel_rfl) (fun _ _ _ h => h) (Or.inl ⟨by rfl, ?hy177⟩) (by assumption) ?r177
            case hy177 => (intro w hSw; (try dsimp only at hSw); first | (go_simp; done) | (go_simp; with_reducible rfl))
            try simp only [Act.put, List.setIfInBounds_toArray, List.set_cons_zero, List.set_cons_succ]
            refine wpAnyH_ready (rs := [15]) (by kernel_rfl) (by simp) ?_
            refine AllReadyH.cons (o := { dst := some 81, op := _, type := _, pos := _, after := _, guard := _ }) rfl (fun K hK => ?_) AllReadyH.nil
            go_simp
            (go_at_call 10; refine (as_bool HG.out.symm (grey_K a.f1 _ a.f3 _ (HM.out.below (by go_split_ands; assumption)) (KS.out _ (by go_split_ands; assumption)) B1.out B2.out)).mono ?_; rintro e w14 ⟨rfl, hw14⟩; try go_wp2_with fail)
            refine hK.out _ _ ?hS178 (fun hHeld => ?_)
            case hS178 => (go_split_ands; (repeat' apply And.intro) <;> (first | assumption | exact pw_cell_below (by assumption) (by assumption) | exact below_step (by assumption) (by assumption) | exact below_drew1 (by assumption)))
            clear hK K
            try simp only [Act.put, List.setIfInBounds_toArray, List.set_cons_zero, List.set_cons_succ]
            refine wpAnyH_take (i := 16) (oi := { dst := some 82, op := _, type := _, pos := _, after := _, guard := _ }) (v := ?v179) rfl (by kernel_rfl) (by kernel_rfl) (by kernel_rfl) (fun _ _ _ h => h) (Or.inl ⟨by rfl, ?hy179⟩) (by assumption) ?r179
            case hy179 => (intro w hSw; (try dsimp only at hSw); first | (go_simp; done) | (go_simp; with_reducible rfl))
            try simp only [Act.put, List.setIfInBounds_toArray, List.set_cons_zero, List.set_cons_succ]
            refine wpAnyH_take (i := 17) (oi := { dst := some 83, op := _, type := _, pos := _, after := _, guard := _ }) (v := ?v180) rfl (by kernel_rfl) (by kernel_rfl) (by kernel_rfl) (fun _ _ _ h => h) (Or.inl ⟨by rfl, ?hy180⟩) (by assumption) ?r180
            case hy180 => (intro w hSw; (try dsimp only at hSw); first | (go_simp; done) | (go_simp; with_reducible rfl))
            try simp only [Act.put, List.setIfInBounds_toArray, List.set_cons_zero, List.set_cons_succ]
            refine wpAnyH_take (i := 18) (oi := { dst := some 84, op := _, type := _, pos := _, after := _, guard := _ }) (v := ?v181) rfl (by kernel_rfl) (by kernel_rfl) (by kernel_rfl) (fun _ _ _ h => h) (Or.inl ⟨by rfl, ?hy181⟩) (by assumption) ?r181
            case hy181 => (intro w hSw; (try dsimp only at hSw); first | (go_simp; done) | (go_simp; with_reducible rfl))
            try simp only [Act.put, List.setIfInBounds_toArray, List.set_cons_zero, List.set_cons_succ]
            refine wpAnyH_ready (rs := [19]) (by kernel_rfl) (by simp) ?_
            refine AllReadyH.cons (o := { dst := some 85, op := _, type := _, pos := _, after := _, guard := _ }) rfl (fun K hK => ?_) AllReadyH.nil
            go_simp
            (go_at_call 7; refine (alive20 _ (HM.out.below (by go_split_ands; assumption))).mono ?_; rintro e w14 ⟨rfl, hw14⟩; try go_wp2_with fail)
            refine hK.out _ _ ?hS182 (fun hHeld => ?_)
            case hS182 => (go_split_ands; (repeat' apply And.intro) <;> (first | assumption | exact pw_cell_below (by assumption) (by assumption) | exact below_step (by assumption) (by assumption) | exact below_drew1 (by assumption)))
            clear hK K
            try simp only [Act.put, List.setIfInBounds_toArray, List.set_cons_zero, List.set_cons_succ]
            refine wpAnyH_take (i := 20) (oi := { dst := some 86, op := _, type := _, pos := _, after := _, guard := _ }) (v := ?v183) rfl (by kernel_rfl) (by kernel_rfl) (by kernel_rfl) (fun _ _ _ h => h) (Or.inl ⟨by rfl, ?hy183⟩) (by assumption) ?r183
            case hy183 => (intro w hSw; (try dsimp only at hSw); first | (go_simp; done) | (go_simp; with_reducible rfl))
            try simp only [Act.put, List.setIfInBounds_toArray, List.set_cons_zero, List.set_cons_succ]
            refine wpAnyH_take (i := 21) (oi := { dst := some 6, op := _, type := _, pos := _, after := _, guard := _ }) (v := ?v184) rfl (by kernel_rfl) (by kernel_rfl) (by kernel_rfl) (fun _ _ _ h => h) (Or.inl ⟨by rfl, ?hy184⟩) (by assumption) ?r184
            case hy184 => (intro w hSw; (try dsimp only at hSw); first | (go_simp; done) | (go_simp; with_reducible rfl))
            try simp only [Act.put, List.setIfInBounds_toArray, List.set_cons_zero, List.set_cons_succ]
            refine wpAnyH_done (by kernel_rfl) ?_ _
            go_wp2
            go_ret
            exact ⟨rfl, by go_split_ands; assumption⟩
        next =>
          obtain ⟨G, hG⟩ : ∃ G, G = polGrey a.f1.f1 a.f1.f3 a.f1.f2 a.f1.f4 a.f3 := ⟨_, rfl⟩
          have HG := Lib.hid hG
          clear hG
          have eqG : (G == G) = true := by simp
          have MB : Hid (k25.K w13 (⟨a.f0.f0, true, false, [], [], [], []⟩ : S25) #[.string a.f0.f0, .bool true, .bool false, .slice none 0 0, .slice none 0 0, .slice none 0 0, .slice none 0 0].toList) := bare_K w13 a.f0.f0
          have KB := Lib.hid (fun W' (h : Below w.heap.size w W') => bare_K W' a.f0.f0)
          have KS := Lib.hid (fun W' (h : Below w.heap.size w W') => k28.K_below h HSTL.out)
          have d_g10_0 := cell_blk HX13.out (j := 0) rfl
          have d_g10_1 := cell_blk HX13.out (j := 1) rfl
          have d_g10_2 := cell_blk HX13.out (j := 2) rfl
          have d_g10_3 := cell_blk HX13.out (j := 3) rfl
          have d_g10_4 := cell_blk HX13.out (j := 4) rfl
          have d_g10_5 := cell_blk HX13.out (j := 5) rfl
          have d_g10_6 := cell_blk HX13.out (j := 6) rfl
          have d_g0_7 := cell_blk HA13.out (j := 7) E7.out
          have d_g0_8 := cell_blk HA13.out (j := 8) E8.out
          have d_g0_9 := cell_blk HA13.out (j := 9) E9.out
          have d_g0_10 := cell_blk HA13.out (j := 10) E10.out
          have d_g0_11 := cell_blk HA13.out (j := 11) E11.out
          have d_g0_12 := cell_blk HA13.out (j := 12) E12.out
          have d_g0_13 := cell_blk HA13.out (j := 13) E13.out
          have d_g0_14 := cell_blk HA13.out (j := 14) E14.out
          have d_g0_15 := cell_blk HA13.out (j := 15) E15.out
          cases first with
          | false =>
            have hbel := HW13.out
            refine wp_region_held_drew (S := fun w' => w'.cell? ⟨g10, 0, none⟩ = some (.string a.f0.f0) ∧ w'.cell? ⟨g10, 1, none⟩ = some (.bool true) ∧ w'.cell? ⟨g10, 2, none⟩ = some (.bool false) ∧ w'.cell? ⟨g10, 3, none⟩ = some (.slice none 0 0) ∧ w'.cell? ⟨g10, 4, none⟩ = some (.slice none 0 0) ∧ w'.cell? ⟨g10, 5, none⟩ = some (.slice none 0 0) ∧ w'.cell? ⟨g10, 6, none⟩ = some (.slice none 0 0) ∧ w'.cell? ⟨g0, 7, none⟩ = some (.int .u16 a.f1.f0) ∧ w'.cell? ⟨g0, 8, none⟩ = some (.int .i64 a.f1.f1) ∧ w'.cell? ⟨g0, 9, none⟩ = some (.slice A2 a.f1.f2.length c2) ∧ w'.cell? ⟨g0, 10, none⟩ = some (.int .i64 a.f1.f3) ∧ w'.cell? ⟨g0, 11, none⟩ = some (.string a.f1.f4) ∧ w'.cell? ⟨g0, 12, none⟩ = some (.int .i64 a.f1.f5) ∧ w'.cell? ⟨g0, 13, none⟩ = some (.int .i64 a.f1.f6) ∧ w'.cell? ⟨g0, 14, none⟩ = some (.bool false) ∧ w'.cell? ⟨g0, 15, none⟩ = some (.string a.f3) ∧ Below w.heap.size w w') (by kernel_rfl) ?hS185 (fun hHeld => ?_)
            case hS185 => (go_split_ands; (repeat' apply And.intro) <;> (first | assumption | exact pw_cell_below (by assumption) (by assumption) | exact below_step (by assumption) (by assumption) | exact below_drew1 (by assumption)))
            refine wpAnyH_take (i := 0) (oi := { dst := some 66, op := _, type := _, pos := _, after := _, guard := _ }) (v := ?v186) rfl (by kernel_rfl) (by kernel_rfl) (by kernel_rfl) (fun _ _ _ h => h) (Or.inl ⟨by rfl, ?hy186⟩) (by assumption) ?r186
            case hy186 => (intro w hSw; (try dsimp only at hSw); first | (go_simp; done) | (go_simp; with_reducible rfl))
            try simp only [Act.put, List.setIfInBounds_toArray, List.set_cons_zero, List.set_cons_succ]
            refine wpAnyH_take (i := 1) (oi := { dst := some 67, op := _, type := _, pos := _, after := _, guard := _ }) (v := ?v187) rfl (by kernel_rfl) (by kernel_rfl) (by kernel_rfl) (fun _ _ _ h => h) (Or.inl ⟨by rfl, ?hy187⟩) (by assumption) ?r187
            case hy187 => (intro w hSw; (try dsimp only at hSw); first | (go_simp; done) | (go_simp; with_reducible rfl))
            try simp only [Act.put, List.setIfInBounds_toArray, List.set_cons_zero, List.set_cons_succ]
            refine wpAnyH_take (i := 2) (oi := { dst := some 68, op := _, type := _, pos := _, after := _, guard := _ }) (v := ?v188) rfl (by kernel_rfl) (by kernel_rfl) (by kernel_rfl) (fun _ _ _ h => h) (Or.inl ⟨by rfl, ?hy188⟩) (by assumption) ?r188
            case hy188 => (intro w hSw; (try dsimp only at hSw); first | (go_simp; done) | (go_simp; with_reducible rfl))
            try simp only [Act.put, List.setIfInBounds_toArray, List.set_cons_zero, List.set_cons_succ]
            refine wpAnyH_take (i := 3) (oi := { dst := some 69, op := _, type := _, pos := _, after := _, guard := _ }) (v := ?v189) rfl (by kernel_rfl) (by kernel_rfl) (by kernel_rfl) (fun _ _ _ h => h) (Or.inl ⟨by rfl, ?hy189⟩) (by assumption) ?r189
            case hy189 => (intro w hSw; (try dsimp only at hSw); first | (go_simp; done) | (go_simp; with_reducible rfl))
            try simp only [Act.put, List.setIfInBounds_toArray, List.set_cons_zero, List.set_cons_succ]
            refine wpAnyH_take (i := 4) (oi := { dst := some 70, op := _, type := _, pos := _, after := _, guard := _ }) (v := ?v190) rfl (by kernel_rfl) (by kernel_rfl) (by kernel_rfl) (fun _ _ _ h => h) (Or.inl ⟨by rfl, ?hy190⟩) (by assumption) ?r190
            case hy190 => (intro w hSw; (try dsimp only at hSw); first | (go_simp; done) | (go_simp; with_reducible rfl))
            try simp only [Act.put, List.setIfInBounds_toArray, List.set_cons_zero, List.set_cons_succ]
            refine wpAnyH_take (i := 5) (oi := { dst := some 71, op := _, type := _, pos := _, after := _, guard := _ }) (v := ?v191) rfl (by kernel_rfl) (by kernel_rfl) (by kernel_rfl) (fun _ _ _ h => h) (Or.inl ⟨by rfl, ?hy191⟩) (by assumption) ?r191
            case hy191 => (intro w hSw; (try dsimp only at hSw); first | (go_simp; done) | (go_simp; with_reducible rfl))
            try simp only [Act.put, List.setIfInBounds_toArray, List.set_cons_zero, List.set_cons_succ]
            refine wpAnyH_take (i := 6) (oi := { dst := some 72, op := _, type := _, pos := _, after := _, guard := _ }) (v := ?v192) rfl (by kernel_rfl) (by kernel_rfl) (by kernel_rfl) (fun _ _ _ h => h) (Or.inl ⟨by rfl, ?hy192⟩) (by assumption) ?r192
            case hy192 => (intro w hSw; (try dsimp only at hSw); first | (go_simp; done) | (go_simp; with_reducible rfl))
            try simp only [Act.put, List.setIfInBounds_toArray, List.set_cons_zero, List.set_cons_succ]
            refine wpAnyH_take (i := 8) (oi := { dst := some 74, op := _, type := _, pos := _, after := _, guard := _ }) (v := ?v193) rfl (by kernel_rfl) (by kernel_rfl) (by kernel_rfl) (fun _ _ _ h => h) (Or.inl ⟨by rfl, ?hy193⟩) (by assumption) ?r193
            case hy193 => (intro w hSw; (try dsimp only at hSw); first | (go_simp; done) | (go_simp; with_reducible rfl))
            try simp only [Act.put, List.setIfInBounds_toArray, List.set_cons_zero, List.set_cons_succ]
            refine wpAnyH_take (i := 9) (oi := { dst := some 75, op := _, type := _, pos := _, after := _, guard := _ }) (v := ?v194) rfl (by kernel_rfl) (by kernel_rfl) (by kernel_rfl) (fun _ _ _ h => h) (Or.inl ⟨by rfl, ?hy194⟩) (by assumption) ?r194
            case hy194 => (intro w hSw; (try dsimp only at hSw); first | (go_simp; done) | (go_simp; with_reducible rfl))
            try simp only [Act.put, List.setIfInBounds_toArray, List.set_cons_zero, List.set_cons_succ]
            refine wpAnyH_ready (rs := [7]) (by kernel_rfl) (by simp) ?_
            refine AllReadyH.cons (o := { dst := some 73, op := _, type := _, pos := _, after := _, guard := _ }) rfl (fun K hK => ?_) AllReadyH.nil
            go_simp
            (go_at_call 9; refine (as_bool ((acc_bare false _ _).trans (rfl : (false && _) = false)) (acc_K _ a.f1 _ _ false a.f3 _ (HM.out.below (by go_split_ands; assumption)) (KB.out _ (by go_split_ands; assumption)) (KS.out _ (by go_split_ands; assumption)) B1.out B2.out (fun x hx => absurd hx (by simp)) (fun x hx => absurd hx (by simp)))).mono ?_; rintro e w14 ⟨rfl, hw14⟩; try go_wp2_with fail)
            refine hK.out _ _ ?hS195 (fun hHeld => ?_)
            case hS195 => (go_split_ands; (repeat' apply And.intro) <;> (first | assumption | exact pw_cell_below (by assumption) (by assumption) | exact below_step (by assumption) (by assumption) | exact below_drew1 (by assumption)))
            clear hK K
            try simp only [Act.put, List.setIfInBounds_toArray, List.set_cons_zero, List.set_cons_succ]
            refine wpAnyH_take (i := 10) (oi := { dst := some 76, op := _, type := _, pos := _, after := _, guard := _ }) (v := ?v196) rfl (by kernel_rfl) (by kernel_rfl) (by kernel_rfl) (fun _ _ _ h => h) (Or.inl ⟨by rfl, ?hy196⟩) (by assumption) ?r196
            case hy196 => (intro w hSw; (try dsimp only at hSw); first | (go_simp; done) | (go_simp; with_reducible rfl))
            try simp only [Act.put, List.setIfInBounds_toArray, List.set_cons_zero, List.set_cons_succ]
            refine wpAnyH_take (i := 11) (oi := { dst := some 77, op := _, type := _, pos := _, after := _, guard := _ }) (v := undef) rfl (by kernel_rfl) (by kernel_rfl) (by kernel_rfl) (fun _ _ _ h => h) (Or.inr ⟨by rfl, rfl⟩) (by assumption) ?r197
            try simp only [Act.put, List.setIfInBounds_toArray, List.set_cons_zero, List.set_cons_succ]
            refine wpAnyH_take (i := 12) (oi := { dst := some 78, op := _, type := _, pos := _, after := _, guard := _ }) (v := undef) rfl (by kernel_rfl) (by kernel_rfl) (by kernel_rfl) (fun _ _ _ h => h) (Or.inr ⟨by rfl, rfl⟩) (by assumption) ?r198
            try simp only [Act.put, List.setIfInBounds_toArray, List.set_cons_zero, List.set_cons_succ]
            refine wpAnyH_take (i := 13) (oi := { dst := some 79, op := _, type := _, pos := _, after := _, guard := _ }) (v := undef) rfl (by kernel_rfl) (by kernel_rfl) (by kernel_rfl) (fun _ _ _ h => h) (Or.inr ⟨by rfl, rfl⟩) (by assumption) ?r199
            try simp only [Act.put, List.setIfInBounds_toArray, List.set_cons_zero, List.set_cons_succ]
            refine wpAnyH_take (i := 14) (oi := { dst := some 80, op := _, type := _, pos := _, after := _, guard := _ }) (v := undef) rfl (by kernel_rfl) (by kernel_rfl) (by kernel_rfl) (fun _ _ _ h => h) (Or.inr ⟨by rfl, rfl⟩) (by assumption) ?r200
            try simp only [Act.put, List.setIfInBounds_toArray, List.set_cons_zero, List.set_cons_succ]
            refine wpAnyH_take (i := 15) (oi := { dst := some 81, op := _, type := _, pos := _, after := _, guard := _ }) (v := undef) rfl (by kernel_rfl) (by kernel_rfl) (by kernel_rfl) (fun _ _ _ h => h) (Or.inr ⟨by rfl, rfl⟩) (by assumption) ?r201
            try simp only [Act.put, List.setIfInBounds_toArray, List.set_cons_zero, List.set_cons_succ]
            refine wpAnyH_take (i := 16) (oi := { dst := some 82, op := _, type := _, pos := _, after := _, guard := _ }) (v := ?v202) rfl (by kernel_rfl) (by kernel_rfl) (by kernel_rfl) (fun _ _ _ h => h) (Or.inl ⟨by rfl, ?hy202⟩) (by assumption) ?r202
            case hy202 => (intro w hSw; (try dsimp only at hSw); first | (go_simp; done) | (go_simp; with_reducible rfl))
            try simp only [Act.put, List.setIfInBounds_toArray, List.set_cons_zero, List.set_cons_succ]
            refine wpAnyH_take (i := 17) (oi := { dst := some 83, op := _, type := _, pos := _, after := _, guard := _ }) (v := ?v203) rfl (by kernel_rfl) (by kernel_rfl) (by kernel_rfl) (fun _ _ _ h => h) (Or.inl ⟨by rfl, ?hy203⟩) (by assumption) ?r203
            case hy203 => (intro w hSw; (try dsimp only at hSw); first | (go_simp; done) | (go_simp; with_reducible rfl))
            try simp only [Act.put, List.setIfInBounds_toArray, List.set_cons_zero, List.set_cons_succ]
            refine wpAnyH_take (i := 18) (oi := { dst := some 84, op := _, type := _, pos := _, after := _, guard := _ }) (v := ?v204) rfl (by kernel_rfl) (by kernel_rfl) (by kernel_rfl) (fun _ _ _ h => h) (Or.inl ⟨by rfl, ?hy204⟩) (by assumption) ?r204
            case hy204 => (intro w hSw; (try dsimp only at hSw); first | (go_simp; done) | (go_simp; with_reducible rfl))
            try simp only [Act.put, List.setIfInBounds_toArray, List.set_cons_zero, List.set_cons_succ]
            refine wpAnyH_ready (rs := [19]) (by kernel_rfl) (by simp) ?_
            refine AllReadyH.cons (o := { dst := some 85, op := _, type := _, pos := _, after := _, guard := _ }) rfl (fun K hK => ?_) AllReadyH.nil
            go_simp
            (go_at_call 7; refine (alive20 _ (HM.out.below (by go_split_ands; assumption))).mono ?_; rintro e w14 ⟨rfl, hw14⟩; try go_wp2_with fail)
            refine hK.out _ _ ?hS205 (fun hHeld => ?_)
            case hS205 => (go_split_ands; (repeat' apply And.intro) <;> (first | assumption | exact pw_cell_below (by assumption) (by assumption) | exact below_step (by assumption) (by assumption) | exact below_drew1 (by assumption)))
            clear hK K
            try simp only [Act.put, List.setIfInBounds_toArray, List.set_cons_zero, List.set_cons_succ]
            refine wpAnyH_take (i := 20) (oi := { dst := some 86, op := _, type := _, pos := _, after := _, guard := _ }) (v := ?v206) rfl (by kernel_rfl) (by kernel_rfl) (by kernel_rfl) (fun _ _ _ h => h) (Or.inl ⟨by rfl, ?hy206⟩) (by assumption) ?r206
            case hy206 => (intro w hSw; (try dsimp only at hSw); first | (go_simp; done) | (go_simp; with_reducible rfl))
            try simp only [Act.put, List.setIfInBounds_toArray, List.set_cons_zero, List.set_cons_succ]
            refine wpAnyH_take (i := 21) (oi := { dst := some 6, op := _, type := _, pos := _, after := _, guard := _ }) (v := ?v207) rfl (by kernel_rfl) (by kernel_rfl) (by kernel_rfl) (fun _ _ _ h => h) (Or.inl ⟨by rfl, ?hy207⟩) (by assumption) ?r207
            case hy207 => (intro w hSw; (try dsimp only at hSw); first | (go_simp; done) | (go_simp; with_reducible rfl))
            try simp only [Act.put, List.setIfInBounds_toArray, List.set_cons_zero, List.set_cons_succ]
            refine wpAnyH_done (by kernel_rfl) ?_ _
            go_wp2
            go_ret
            exact ⟨rfl, by go_split_ands; assumption⟩
          | true =>
            have hbel := HW13.out
            refine wp_region_held_drew (S := fun w' => w'.cell? ⟨g10, 0, none⟩ = some (.string a.f0.f0) ∧ w'.cell? ⟨g10, 1, none⟩ = some (.bool true) ∧ w'.cell? ⟨g10, 2, none⟩ = some (.bool false) ∧ w'.cell? ⟨g10, 3, none⟩ = some (.slice none 0 0) ∧ w'.cell? ⟨g10, 4, none⟩ = some (.slice none 0 0) ∧ w'.cell? ⟨g10, 5, none⟩ = some (.slice none 0 0) ∧ w'.cell? ⟨g10, 6, none⟩ = some (.slice none 0 0) ∧ w'.cell? ⟨g0, 7, none⟩ = some (.int .u16 a.f1.f0) ∧ w'.cell? ⟨g0, 8, none⟩ = some (.int .i64 a.f1.f1) ∧ w'.cell? ⟨g0, 9, none⟩ = some (.slice A2 a.f1.f2.length c2) ∧ w'.cell? ⟨g0, 10, none⟩ = some (.int .i64 a.f1.f3) ∧ w'.cell? ⟨g0, 11, none⟩ = some (.string a.f1.f4) ∧ w'.cell? ⟨g0, 12, none⟩ = some (.int .i64 a.f1.f5) ∧ w'.cell? ⟨g0, 13, none⟩ = some (.int .i64 a.f1.f6) ∧ w'.cell? ⟨g0, 14, none⟩ = some (.bool true) ∧ w'.cell? ⟨g0, 15, none⟩ = some (.string a.f3) ∧ Below w.heap.size w w') (by kernel_rfl) ?hS208 (fun hHeld => ?_)
            case hS208 => (go_split_ands; (repeat' apply And.intro) <;> (first | assumption | exact pw_cell_below (by assumption) (by assumption) | exact below_step (by assumption) (by assumption) | exact below_drew1 (by assumption)))
            refine wpAnyH_take (i := 0) (oi := { dst := some 66, op := _, type := _, pos := _, after := _, guard := _ }) (v := ?v209) rfl (by kernel_rfl) (by kernel_rfl) (by kernel_rfl) (fun _ _ _ h => h) (Or.inl ⟨by rfl, ?hy209⟩) (by assumption) ?r209
            case hy209 => (intro w hSw; (try dsimp only at hSw); first | (go_simp; done) | (go_simp; with_reducible rfl))
            try simp only [Act.put, List.setIfInBounds_toArray, List.set_cons_zero, List.set_cons_succ]
            refine wpAnyH_take (i := 1) (oi := { dst := some 67, op := _, type := _, pos := _, after := _, guard := _ }) (v := ?v210) rfl (by kernel_rfl) (by kernel_rfl) (by kernel_rfl) (fun _ _ _ h => h) (Or.inl ⟨by rfl, ?hy210⟩) (by assumption) ?r210
            case hy210 => (intro w hSw; (try dsimp only at hSw); first | (go_simp; done) | (go_simp; with_reducible rfl))
            try simp only [Act.put, List.setIfInBounds_toArray, List.set_cons_zero, List.set_cons_succ]
            refine wpAnyH_take (i := 2) (oi := { dst := some 68, op := _, type := _, pos := _, after := _, guard := _ }) (v := ?v211) rfl (by kernel_rfl) (by kernel_rfl) (by kernel_rfl) (fun _ _ _ h => h) (Or.inl ⟨by rfl, ?hy211⟩) (by assumption) ?r211
            case hy211 => (intro w hSw; (try dsimp only at hSw); first | (go_simp; done) | (go_simp; with_reducible rfl))
            try simp only [Act.put, List.setIfInBounds_toArray, List.set_cons_zero, List.set_cons_succ]
            refine wpAnyH_take (i := 3) (oi := { dst := some 69, op := _, type := _, pos := _, after := _, guard := _ }) (v := ?v212) rfl (by kernel_rfl) (by kernel_rfl) (by kernel_rfl) (fun _ _ _ h => h) (Or.inl ⟨by rfl, ?hy212⟩) (by assumption) ?r212
            case hy212 => (intro w hSw; (try dsimp only at hSw); first | (go_simp; done) | (go_simp; with_reducible rfl))
            try simp only [Act.put, List.setIfInBounds_toArray, List.set_cons_zero, List.set_cons_succ]
            refine wpAnyH_take (i := 4) (oi := { dst := some 70, op := _, type := _, pos := _, after := _, guard := _ }) (v := ?v213) rfl (by kernel_rfl) (by kernel_rfl) (by kernel_rfl) (fun _ _ _ h => h) (Or.inl ⟨by rfl, ?hy213⟩) (by assumption) ?r213
            case hy213 => (intro w hSw; (try dsimp only at hSw); first | (go_simp; done) | (go_simp; with_reducible rfl))
            try simp only [Act.put, List.setIfInBounds_toArray, List.set_cons_zero, List.set_cons_succ]
            refine wpAnyH_take (i := 5) (oi := { dst := some 71, op := _, type := _, pos := _, after := _, guard := _ }) (v := ?v214) rfl (by kernel_rfl) (by kernel_rfl) (by kernel_rfl) (fun _ _ _ h => h) (Or.inl ⟨by rfl, ?hy214⟩) (by assumption) ?r214
            case hy214 => (intro w hSw; (try dsimp only at hSw); first | (go_simp; done) | (go_simp; with_reducible rfl))
            try simp only [Act.put, List.setIfInBounds_toArray, List.set_cons_zero, List.set_cons_succ]
            refine wpAnyH_take (i := 6) (oi := { dst := some 72, op := _, type := _, pos := _, after := _, guard := _ }) (v := ?v215) rfl (by kernel_rfl) (by kernel_rfl) (by kernel_rfl) (fun _ _ _ h => h) (Or.inl ⟨by rfl, ?hy215⟩) (by assumption) ?r215
            case hy215 => (intro w hSw; (try dsimp only at hSw); first | (go_simp; done) | (go_simp; with_reducible rfl))
            try simp only [Act.put, List.setIfInBounds_toArray, List.set_cons_zero, List.set_cons_succ]
            refine wpAnyH_take (i := 8) (oi := { dst := some 74, op := _, type := _, pos := _, after := _, guard := _ }) (v := ?v216) rfl (by kernel_rfl) (by kernel_rfl) (by kernel_rfl) (fun _ _ _ h => h) (Or.inl ⟨by rfl, ?hy216⟩) (by assumption) ?r216
            case hy216 => (intro w hSw; (try dsimp only at hSw); first | (go_simp; done) | (go_simp; with_reducible rfl))
            try simp only [Act.put, List.setIfInBounds_toArray, List.set_cons_zero, List.set_cons_succ]
            refine wpAnyH_take (i := 9) (oi := { dst := some 75, op := _, type := _, pos := _, after := _, guard := _ }) (v := ?v217) rfl (by kernel_rfl) (by kernel_rfl) (by kernel_rfl) (fun _ _ _ h => h) (Or.inl ⟨by rfl, ?hy217⟩) (by assumption) ?r217
            case hy217 => (intro w hSw; (try dsimp only at hSw); first | (go_simp; done) | (go_simp; with_reducible rfl))
            try simp only [Act.put, List.setIfInBounds_toArray, List.set_cons_zero, List.set_cons_succ]
            refine wpAnyH_ready (rs := [7]) (by kernel_rfl) (by simp) ?_
            refine AllReadyH.cons (o := { dst := some 73, op := _, type := _, pos := _, after := _, guard := _ }) rfl (fun K hK => ?_) AllReadyH.nil
            go_simp
            (go_at_call 9; refine (as_bool ((acc_bare true _ _).trans (by rw [← HG.out]; rfl : (true && _) = G)) (acc_K _ a.f1 _ _ true a.f3 _ (HM.out.below (by go_split_ands; assumption)) (KB.out _ (by go_split_ands; assumption)) (KS.out _ (by go_split_ands; assumption)) B1.out B2.out (fun x hx => absurd hx (by simp)) (fun x hx => absurd hx (by simp)))).mono ?_; rintro e w14 ⟨rfl, hw14⟩; try go_wp2_with fail)
            refine hK.out _ _ ?hS218 (fun hHeld => ?_)
            case hS218 => (go_split_ands; (repeat' apply And.intro) <;> (first | assumption | exact pw_cell_below (by assumption) (by assumption) | exact below_step (by assumption) (by assumption) | exact below_drew1 (by assumption)))
            clear hK K
            try simp only [Act.put, List.setIfInBounds_toArray, List.set_cons_zero, List.set_cons_succ]
            refine wpAnyH_take (i := 10) (oi := { dst := some 76, op := _, type := _, pos := _, after := _, guard := _ }) (v := ?v219) rfl (by kernel_rfl) (by kernel_rfl) (by kernel_rfl) (fun _ _ _ h => h) (Or.inl ⟨by rfl, ?hy219⟩) (by assumption) ?r219
            case hy219 => (intro w hSw; (try dsimp only at hSw); first | (go_simp; done) | (go_simp; with_reducible rfl))
            try simp only [Act.put, List.setIfInBounds_toArray, List.set_cons_zero, List.set_cons_succ]
            refine wpAnyH_take (i := 11) (oi := { dst := some 77, op := _, type := _, pos := _, after := _, guard := _ }) (v := ?v220) rfl (by kernel_rfl) (by kernel_rfl) (by kernel_rfl) (fun _ _ _ h => h) (Or.inl ⟨by rfl, ?hy220⟩) (by assumption) ?r220
            case hy220 => (intro w hSw; (try dsimp only at hSw); first | (go_simp; done) | (go_simp; with_reducible rfl))
            try simp only [Act.put, List.setIfInBounds_toArray, List.set_cons_zero, List.set_cons_succ]
            refine wpAnyH_take (i := 12) (oi := { dst := some 78, op := _, type := _, pos := _, after := _, guard := _ }) (v := ?v221) rfl (by kernel_rfl) (by kernel_rfl) (by kernel_rfl) (fun _ _ _ h => h) (Or.inl ⟨by rfl, ?hy221⟩) (by assumption) ?r221
            case hy221 => (intro w hSw; (try dsimp only at hSw); first | (go_simp; done) | (go_simp; with_reducible rfl))
            try simp only [Act.put, List.setIfInBounds_toArray, List.set_cons_zero, List.set_cons_succ]
            refine wpAnyH_take (i := 13) (oi := { dst := some 79, op := _, type := _, pos := _, after := _, guard := _ }) (v := ?v222) rfl (by kernel_rfl) (by kernel_rfl) (by kernel_rfl) (fun _ _ _ h => h) (Or.inl ⟨by rfl, ?hy222⟩) (by assumption) ?r222
            case hy222 => (intro w hSw; (try dsimp only at hSw); first | (go_simp; done) | (go_simp; with_reducible rfl))
            try simp only [Act.put, List.setIfInBounds_toArray, List.set_cons_zero, List.set_cons_succ]
            refine wpAnyH_take (i := 14) (oi := { dst := some 80, op := _, type := _, pos := _, after := _, guard := _ }) (v := ?v223) rfl (by kernel_rfl) (by kernel_rfl) (by kernel_rfl) (fun _ _ _ h => h) (Or.inl ⟨by rfl, ?hy223⟩) (by assumption) ?r223
            case hy223 => (intro w hSw; (try dsimp only at hSw); first | (go_simp; done) | (go_simp; with_reducible rfl))
            try simp only [Act.put, List.setIfInBounds_toArray, List.set_cons_zero, List.set_cons_succ]
            refine wpAnyH_ready (rs := [15]) (by kernel_rfl) (by simp) ?_
            refine AllReadyH.cons (o := { dst := some 81, op := _, type := _, pos := _, after := _, guard := _ }) rfl (fun K hK => ?_) AllReadyH.nil
            go_simp
            (go_at_call 10; refine (as_bool HG.out.symm (grey_K a.f1 _ a.f3 _ (HM.out.below (by go_split_ands; assumption)) (KS.out _ (by go_split_ands; assumption)) B1.out B2.out)).mono ?_; rintro e w14 ⟨rfl, hw14⟩; try go_wp2_with fail)
            refine hK.out _ _ ?hS224 (fun hHeld => ?_)
            case hS224 => (go_split_ands; (repeat' apply And.intro) <;> (first | assumption | exact pw_cell_below (by assumption) (by assumption) | exact below_step (by assumption) (by assumption) | exact below_drew1 (by assumption)))
            clear hK K
            try simp only [Act.put, List.setIfInBounds_toArray, List.set_cons_zero, List.set_cons_succ]
            refine wpAnyH_take (i := 16) (oi := { dst := some 82, op := _, type := _, pos := _, after := _, guard := _ }) (v := ?v225) rfl (by kernel_rfl) (by kernel_rfl) (by kernel_rfl) (fun _ _ _ h => h) (Or.inl ⟨by rfl, ?hy225⟩) (by assumption) ?r225
            case hy225 => (intro w hSw; (try dsimp only at hSw); first | (go_simp; done) | (go_simp; with_reducible rfl))
            try simp only [Act.put, List.setIfInBounds_toArray, List.set_cons_zero, List.set_cons_succ]
            refine wpAnyH_take (i := 17) (oi := { dst := some 83, op := _, type := _, pos := _, after := _, guard := _ }) (v := ?v226) rfl (by kernel_rfl) (by kernel_rfl) (by kernel_rfl) (fun _ _ _ h => h) (Or.inl ⟨by rfl, ?hy226⟩) (by assumption) ?r226
            case hy226 => (intro w hSw; (try dsimp only at hSw); first | (go_simp; done) | (go_simp; with_reducible rfl))
            try simp only [Act.put, List.setIfInBounds_toArray, List.set_cons_zero, List.set_cons_succ]
            refine wpAnyH_take (i := 18) (oi := { dst := some 84, op := _, type := _, pos := _, after := _, guard := _ }) (v := ?v227) rfl (by kernel_rfl) (by kernel_rfl) (by kernel_rfl) (fun _ _ _ h => h) (Or.inl ⟨by rfl, ?hy227⟩) (by assumption) ?r227
            case hy227 => (intro w hSw; (try dsimp only at hSw); first | (go_simp; done) | (go_simp; with_reducible rfl))
            try simp only [Act.put, List.setIfInBounds_toArray, List.set_cons_zero, List.set_cons_succ]
            refine wpAnyH_ready (rs := [19]) (by kernel_rfl) (by simp) ?_
            refine AllReadyH.cons (o := { dst := some 85, op := _, type := _, pos := _, after := _, guard := _ }) rfl (fun K hK => ?_) AllReadyH.nil
            go_simp
            (go_at_call 7; refine (alive20 _ (HM.out.below (by go_split_ands; assumption))).mono ?_; rintro e w14 ⟨rfl, hw14⟩; try go_wp2_with fail)
            refine hK.out _ _ ?hS228 (fun hHeld => ?_)
            case hS228 => (go_split_ands; (repeat' apply And.intro) <;> (first | assumption | exact pw_cell_below (by assumption) (by assumption) | exact below_step (by assumption) (by assumption) | exact below_drew1 (by assumption)))
            clear hK K
            try simp only [Act.put, List.setIfInBounds_toArray, List.set_cons_zero, List.set_cons_succ]
            refine wpAnyH_take (i := 20) (oi := { dst := some 86, op := _, type := _, pos := _, after := _, guard := _ }) (v := ?v229) rfl (by kernel_rfl) (by kernel_rfl) (by kernel_rfl) (fun _ _ _ h => h) (Or.inl ⟨by rfl, ?hy229⟩) (by assumption) ?r229
            case hy229 => (intro w hSw; (try dsimp only at hSw); first | (go_simp; done) | (go_simp; with_reducible rfl))
            try simp only [Act.put, List.setIfInBounds_toArray, List.set_cons_zero, List.set_cons_succ]
            refine wpAnyH_take (i := 21) (oi := { dst := some 6, op := _, type := _, pos := _, after := _, guard := _ }) (v := ?v230) rfl (by kernel_rfl) (by kernel_rfl) (by kernel_rfl) (fun _ _ _ h => h) (Or.inl ⟨by rfl, ?hy230⟩) (by assumption) ?r230
            case hy230 => (intro w hSw; (try dsimp only at hSw); first | (go_simp; done) | (go_simp; with_reducible rfl))
            try simp only [Act.put, List.setIfInBounds_toArray, List.set_cons_zero, List.set_cons_succ]
            refine wpAnyH_done (by kernel_rfl) ?_ _
            go_wp2
            go_ret
            exact ⟨rfl, by go_split_ands; assumption⟩
       | false =>
        have ISO := Lib.hid (acc_iso HAS.out.symm)
        have F1' : Hid (sp[1]? = some (.bool true)) := by show _ = _; rw [F1.out, ISO.out]
        go_wp2_with (first
          | (with_reducible refine ev_load rfl 25 (.tmp 7) rfl _ _ rfl HB5.out sp.toList LS.out U25.out rfl I25.out ?_)
          | ((with_reducible refine gate_dst (N := 9) rfl ?_); refine box_event ?hg (N := 9) ?hd (cs := #[.string ⟨#[]⟩, .bool false, .bool false, .slice none 0 0, .slice none 0 0, .slice none 0 0, .slice none 0 0]) (t := 25) ?hr ?_; (case hd => rfl); (case hg => rfl); (case hr => first | (go_simp; done) | (go_simp; rfl)); intro g9 hg_ w6 hb_ hw_; have HC6 := Lib.hid hb_; have HG9 := Lib.hid (show w.heap.size ≤ g9 by have := HW5.out.size; omega); have HA6 := Lib.hid (blk_below HA5.out hw_); have HB6 := Lib.hid (blk_below HB5.out hw_); have HW6 := Lib.hid (below_then HW5.out HW5.out.size hw_); have N9 := Lib.hid (show g0 ≠ g9 by have := blk_lt HA5.out; omega); have N79 := Lib.hid (show g7 ≠ g9 by have := blk_lt HB5.out; omega); clear hb_ hw_ hg_)
          | (with_reducible refine ev_store_all rfl rfl 25 (.tmp 9) (.tmp 28) rfl _ rfl sp rfl HC6.out SZ.out I25a.out ONE.out ?_; intro w7 hb_ ho_; have HC7 := Lib.hid hb_; have HA7 := Lib.hid (ho_.blk HA6.out N9.out); have HB7 := Lib.hid (ho_.blk HB6.out N79.out); have HW7 := Lib.hid (below_only HW6.out ho_ (fun i hi => by rw [hi]; exact HG9.out)); clear hb_ ho_)
          | ((with_reducible refine gate_dst (N := 37) rfl ?_); refine Kd.R_lit Kd.string w.heap.size 9 ?hg (N := 37) ?hd (xs := [dir]) (inner := [.string dir]) (ok := fun k => w7.heap.size ≤ k) (okp := fun k => w7.heap.size ≤ k) (w0 := w) ?hr ⟨rfl, ?hrep⟩ (fun _ h => h) (Nat.le_refl _) ?hB ?hbase (by simp) ?_; (case hg => rfl); (case hd => rfl); (case hr => first | (go_simp; done) | (go_simp; rfl)); (case hrep => intro j p hj; match j, hj with | 0, hj => (obtain rfl : dir = p := (by simpa using hj)); rfl); (case hB => exact HW7.out); (case hbase => exact HW7.out.size); intro v8 w8 hR8 hB8 hg8 hown8; have HR8 := Lib.hid hR8; have O8 := Lib.hid hown8; have HA8 := Lib.hid ((only_grown hg8).blk HA7.out (by simp)); have HB8 := Lib.hid ((only_grown hg8).blk HB7.out (by simp)); have HC8 := Lib.hid ((only_grown hg8).blk HC7.out (by simp)); have HW8 := Lib.hid (below_only HW7.out (only_grown hg8) (by simp)); have SZ8 := Lib.hid (show w7.heap.size ≤ w8.heap.size from hg8.size); have c4 := cell_blk HB8.out F3.out; clear hR8 hB8 hg8 hown8)
          | (at_builtin; have c4' := Lib.hid c4; clear c4; refine Kd.R_append_row Value.string ByteArray.empty (w0 := w) w.heap.size rfl _ _ 22 9 (.string ⟨#[]⟩) 16 rfl Tryd.underlying22 (by kernel_rfl) rfl (by decide) v8 [dir] a.f0.f3 A3 a.f0.f3.length c3 (fun k => w7.heap.size ≤ k) rfl rfl (fun k hk => Nat.le_trans SZ8.out hk) HR8.out (Kd.C_below G3.out.2 HW8.out) HW8.out HW8.out.size (by have := Z3.out; simp; omega) ?_; intro v9 w9 hR9 hB9 hg9 hat9; obtain ⟨A9, c9, rfl, l9, g9'⟩ := Kd.R_reads hR9; have HR9 := Lib.hid hR9; have NE := Lib.hid (show ∀ g, g < w7.heap.size → ¬ (some g = v8.ownBlock) from fun g hg he => by obtain ⟨b, hb1, hb2⟩ := O8.out; rw [hb1] at he; injection he with he; omega); have HA9 := Lib.hid ((only_grown hg9).blk HA8.out (NE.out _ (blk_lt HA7.out))); have HB9 := Lib.hid ((only_grown hg9).blk HB8.out (NE.out _ (blk_lt HB7.out))); have HC9 := Lib.hid ((only_grown hg9).blk HC8.out (NE.out _ (blk_lt HC7.out))); have HW9 := Lib.hid hB9; clear hR9 hB9 hg9 hat9 l9 g9')
          | ((with_reducible refine gate_store (t := 22) (p := 41) rfl ?_); refine ev_store_cell rfl rfl g9 3 (.slice A9 (a.f0.f3.length + 1) c9) HC9.out ?hst ?_; (case hst => (have f1 := cell_blk HC9.out F3.out; have f2 := blk_frozen HC9.out 3; first | (go_simp; done) | (go_simp; rfl))); intro w10 hb10 ho10; obtain ⟨sp9, hs9⟩ : ∃ x, x = sp.setIfInBounds 3 (.slice A9 (a.f0.f3.length + 1) c9) := ⟨_, rfl⟩; rw [← hs9] at hb10; have HS9 := Lib.hid hs9; clear hs9; have HC10 := Lib.hid hb10; have HA10 := Lib.hid (ho10.blk HA9.out N9.out); have HB10 := Lib.hid (ho10.blk HB9.out N79.out); have HO10 := Lib.hid ho10; have HW10 := Lib.hid (below_only HW9.out ho10 (fun i hi => by rw [hi]; exact HG9.out)); have HA11 := HA10; have HB11 := HB10; have HW11 := HW10; have c0 := cell_blk HB11.out F0.out; have c1 := cell_blk HB11.out F1'.out; clear hb10 ho10)
          | ((with_reducible refine gate_dst (N := 10) rfl ?_); refine box_event ?hg (N := 10) ?hd (cs := #[.string ⟨#[]⟩, .bool false, .bool false, .slice none 0 0, .slice none 0 0, .slice none 0 0, .slice none 0 0]) (t := 25) ?hr ?_; (case hd => rfl); (case hg => rfl); (case hr => first | (go_simp; done) | (go_simp; rfl)); intro g10 hg_ w12 hb_ hw_; have HX12 := Lib.hid hb_; have HG10 := Lib.hid (show w.heap.size ≤ g10 by have := HW11.out.size; omega); have HA12 := Lib.hid (blk_below HA11.out hw_); have HW12 := Lib.hid (below_then HW11.out HW11.out.size hw_); have N10 := Lib.hid (show g0 ≠ g10 by have := blk_lt HA11.out; omega); clear hb_ hw_ hg_)
          | (with_reducible refine ev_store_all rfl rfl 25 (.tmp 10) (.tmp 65) rfl _ rfl #[.string a.f0.f0, .bool true, .bool false, .slice none 0 0, .slice none 0 0, .slice none 0 0, .slice none 0 0] rfl HX12.out SZB.out I25b.out ONEB.out ?_; intro w13 hb_ ho_; have HX13 := Lib.hid hb_; have HA13 := Lib.hid (ho_.blk HA12.out N10.out); have HW13 := Lib.hid (below_only HW12.out ho_ (fun i hi => by rw [hi]; exact HG10.out)); clear c0 c1; clear hb_ ho_))
        obtain ⟨G, hG⟩ : ∃ G, G = polGrey a.f1.f1 a.f1.f3 a.f1.f2 a.f1.f4 a.f3 := ⟨_, rfl⟩
        have HG := Lib.hid hG
        clear hG
        have eqG : (G == G) = true := by simp
        have MB : Hid (k25.K w13 (⟨a.f0.f0, true, false, [], [], [], []⟩ : S25) #[.string a.f0.f0, .bool true, .bool false, .slice none 0 0, .slice none 0 0, .slice none 0 0, .slice none 0 0].toList) := bare_K w13 a.f0.f0
        have KB := Lib.hid (fun W' (h : Below w.heap.size w W') => bare_K W' a.f0.f0)
        have KS := Lib.hid (fun W' (h : Below w.heap.size w W') => k28.K_below h HSTL.out)
        have d_g10_0 := cell_blk HX13.out (j := 0) rfl
        have d_g10_1 := cell_blk HX13.out (j := 1) rfl
        have d_g10_2 := cell_blk HX13.out (j := 2) rfl
        have d_g10_3 := cell_blk HX13.out (j := 3) rfl
        have d_g10_4 := cell_blk HX13.out (j := 4) rfl
        have d_g10_5 := cell_blk HX13.out (j := 5) rfl
        have d_g10_6 := cell_blk HX13.out (j := 6) rfl
        have d_g0_7 := cell_blk HA13.out (j := 7) E7.out
        have d_g0_8 := cell_blk HA13.out (j := 8) E8.out
        have d_g0_9 := cell_blk HA13.out (j := 9) E9.out
        have d_g0_10 := cell_blk HA13.out (j := 10) E10.out
        have d_g0_11 := cell_blk HA13.out (j := 11) E11.out
        have d_g0_12 := cell_blk HA13.out (j := 12) E12.out
        have d_g0_13 := cell_blk HA13.out (j := 13) E13.out
        have d_g0_14 := cell_blk HA13.out (j := 14) E14.out
        have d_g0_15 := cell_blk HA13.out (j := 15) E15.out
        cases first with
        | false =>
          have hbel := HW13.out
          refine wp_region_held_drew (S := fun w' => w'.cell? ⟨g10, 0, none⟩ = some (.string a.f0.f0) ∧ w'.cell? ⟨g10, 1, none⟩ = some (.bool true) ∧ w'.cell? ⟨g10, 2, none⟩ = some (.bool false) ∧ w'.cell? ⟨g10, 3, none⟩ = some (.slice none 0 0) ∧ w'.cell? ⟨g10, 4, none⟩ = some (.slice none 0 0) ∧ w'.cell? ⟨g10, 5, none⟩ = some (.slice none 0 0) ∧ w'.cell? ⟨g10, 6, none⟩ = some (.slice none 0 0) ∧ w'.cell? ⟨g0, 7, none⟩ = some (.int .u16 a.f1.f0) ∧ w'.cell? ⟨g0, 8, none⟩ = some (.int .i64 a.f1.f1) ∧ w'.cell? ⟨g0, 9, none⟩ = some (.slice A2 a.f1.f2.length c2) ∧ w'.cell? ⟨g0, 10, none⟩ = some (.int .i64 a.f1.f3) ∧ w'.cell? ⟨g0, 11, none⟩ = some (.string a.f1.f4) ∧ w'.cell? ⟨g0, 12, none⟩ = some (.int .i64 a.f1.f5) ∧ w'.cell? ⟨g0, 13, none⟩ = some (.int .i64 a.f1.f6) ∧ w'.cell? ⟨g0, 14, none⟩ = some (.bool false) ∧ w'.cell? ⟨g0, 15, none⟩ = some (.string a.f3) ∧ Below w.heap.size w w') (by kernel_rfl) ?hS231 (fun hHeld => ?_)
          case hS231 => (go_split_ands; (repeat' apply And.intro) <;> (first | assumption | exact pw_cell_below (by assumption) (by assumption) | exact below_step (by assumption) (by assumption) | exact below_drew1 (by assumption)))
          refine wpAnyH_take (i := 0) (oi := { dst := some 66, op := _, type := _, pos := _, after := _, guard := _ }) (v := ?v232) rfl (by kernel_rfl) (by kernel_rfl) (by kernel_rfl) (fun _ _ _ h => h) (Or.inl ⟨by rfl, ?hy232⟩) (by assumption) ?r232
          case hy232 => (intro w hSw; (try dsimp only at hSw); first | (go_simp; done) | (go_simp; with_reducible rfl))
          try simp only [Act.put, List.setIfInBounds_toArray, List.set_cons_zero, List.set_cons_succ]
          refine wpAnyH_take (i := 1) (oi := { dst := some 67, op := _, type := _, pos := _, after := _, guard := _ }) (v := ?v233) rfl (by kernel_rfl) (by kernel_rfl) (by kernel_rfl) (fun _ _ _ h => h) (Or.inl ⟨by rfl, ?hy233⟩) (by assumption) ?r233
          case hy233 => (intro w hSw; (try dsimp only at hSw); first | (go_simp; done) | (go_simp; with_reducible rfl))
          try simp only [Act.put, List.setIfInBounds_toArray, List.set_cons_zero, List.set_cons_succ]
          refine wpAnyH_take (i := 2) (oi := { dst := some 68, op := _, type := _, pos := _, after := _, guard := _ }) (v := ?v234) rfl (by kernel_rfl) (by kernel_rfl) (by kernel_rfl) (fun _ _ _ h => h) (Or.inl ⟨by rfl, ?hy234⟩) (by assumption) ?r234
          case hy234 => (intro w hSw; (try dsimp only at hSw); first | (go_simp; done) | (go_simp; with_reducible rfl))
          try simp only [Act.put, List.setIfInBounds_toArray, List.set_cons_zero, List.set_cons_succ]
          refine wpAnyH_take (i := 3) (oi := { dst := some 69, op := _, type := _, pos := _, after := _, guard := _ }) (v := ?v235) rfl (by kernel_rfl) (by kernel_rfl) (by kernel_rfl) (fun _ _ _ h => h) (Or.inl ⟨by rfl, ?hy235⟩) (by assumption) ?r235
          case hy235 => (intro w hSw; (try dsimp only at hSw); first | (go_simp; done) | (go_simp; with_reducible rfl))
          try simp only [Act.put, List.setIfInBounds_toArray, List.set_cons_zero, List.set_cons_succ]
          refine wpAnyH_take (i := 4) (oi := { dst := some 70, op := _, type := _, pos := _, after := _, guard := _ }) (v := ?v236) rfl (by kernel_rfl) (by kernel_rfl) (by kernel_rfl) (fun _ _ _ h => h) (Or.inl ⟨by rfl, ?hy236⟩) (by assumption) ?r236
          case hy236 => (intro w hSw; (try dsimp only at hSw); first | (go_simp; done) | (go_simp; with_reducible rfl))
          try simp only [Act.put, List.setIfInBounds_toArray, List.set_cons_zero, List.set_cons_succ]
          refine wpAnyH_take (i := 5) (oi := { dst := some 71, op := _, type := _, pos := _, after := _, guard := _ }) (v := ?v237) rfl (by kernel_rfl) (by kernel_rfl) (by kernel_rfl) (fun _ _ _ h => h) (Or.inl ⟨by rfl, ?hy237⟩) (by assumption) ?r237
          case hy237 => (intro w hSw; (try dsimp only at hSw); first | (go_simp; done) | (go_simp; with_reducible rfl))
          try simp only [Act.put, List.setIfInBounds_toArray, List.set_cons_zero, List.set_cons_succ]
          refine wpAnyH_take (i := 6) (oi := { dst := some 72, op := _, type := _, pos := _, after := _, guard := _ }) (v := ?v238) rfl (by kernel_rfl) (by kernel_rfl) (by kernel_rfl) (fun _ _ _ h => h) (Or.inl ⟨by rfl, ?hy238⟩) (by assumption) ?r238
          case hy238 => (intro w hSw; (try dsimp only at hSw); first | (go_simp; done) | (go_simp; with_reducible rfl))
          try simp only [Act.put, List.setIfInBounds_toArray, List.set_cons_zero, List.set_cons_succ]
          refine wpAnyH_take (i := 8) (oi := { dst := some 74, op := _, type := _, pos := _, after := _, guard := _ }) (v := ?v239) rfl (by kernel_rfl) (by kernel_rfl) (by kernel_rfl) (fun _ _ _ h => h) (Or.inl ⟨by rfl, ?hy239⟩) (by assumption) ?r239
          case hy239 => (intro w hSw; (try dsimp only at hSw); first | (go_simp; done) | (go_simp; with_reducible rfl))
          try simp only [Act.put, List.setIfInBounds_toArray, List.set_cons_zero, List.set_cons_succ]
          refine wpAnyH_take (i := 9) (oi := { dst := some 75, op := _, type := _, pos := _, after := _, guard := _ }) (v := ?v240) rfl (by kernel_rfl) (by kernel_rfl) (by kernel_rfl) (fun _ _ _ h => h) (Or.inl ⟨by rfl, ?hy240⟩) (by assumption) ?r240
          case hy240 => (intro w hSw; (try dsimp only at hSw); first | (go_simp; done) | (go_simp; with_reducible rfl))
          try simp only [Act.put, List.setIfInBounds_toArray, List.set_cons_zero, List.set_cons_succ]
          refine wpAnyH_ready (rs := [7]) (by kernel_rfl) (by simp) ?_
          refine AllReadyH.cons (o := { dst := some 73, op := _, type := _, pos := _, after := _, guard := _ }) rfl (fun K hK => ?_) AllReadyH.nil
          go_simp
          (go_at_call 9; refine (as_bool ((acc_bare false _ _).trans (rfl : (false && _) = false)) (acc_K _ a.f1 _ _ false a.f3 _ (HM.out.below (by go_split_ands; assumption)) (KB.out _ (by go_split_ands; assumption)) (KS.out _ (by go_split_ands; assumption)) B1.out B2.out (fun x hx => absurd hx (by simp)) (fun x hx => absurd hx (by simp)))).mono ?_; rintro e w14 ⟨rfl, hw14⟩; try go_wp2_with fail)
          refine hK.out _ _ ?hS241 (fun hHeld => ?_)
          case hS241 => (go_split_ands; (repeat' apply And.intro) <;> (first | assumption | exact pw_cell_below (by assumption) (by assumption) | exact below_step (by assumption) (by assumption) | exact below_drew1 (by assumption)))
          clear hK K
          try simp only [Act.put, List.setIfInBounds_toArray, List.set_cons_zero, List.set_cons_succ]
          refine wpAnyH_take (i := 10) (oi := { dst := some 76, op := _, type := _, pos := _, after := _, guard := _ }) (v := ?v242) rfl (by kernel_rfl) (by kernel_rfl) (by kernel_rfl) (fun _ _ _ h => h) (Or.inl ⟨by rfl, ?hy242⟩) (by assumption) ?r242
          case hy242 => (intro w hSw; (try dsimp only at hSw); first | (go_simp; done) | (go_simp; with_reducible rfl))
          try simp only [Act.put, List.setIfInBounds_toArray, List.set_cons_zero, List.set_cons_succ]
          refine wpAnyH_take (i := 11) (oi := { dst := some 77, op := _, type := _, pos := _, after := _, guard := _ }) (v := undef) rfl (by kernel_rfl) (by kernel_rfl) (by kernel_rfl) (fun _ _ _ h => h) (Or.inr ⟨by rfl, rfl⟩) (by assumption) ?r243
          try simp only [Act.put, List.setIfInBounds_toArray, List.set_cons_zero, List.set_cons_succ]
          refine wpAnyH_take (i := 12) (oi := { dst := some 78, op := _, type := _, pos := _, after := _, guard := _ }) (v := undef) rfl (by kernel_rfl) (by kernel_rfl) (by kernel_rfl) (fun _ _ _ h => h) (Or.inr ⟨by rfl, rfl⟩) (by assumption) ?r244
          try simp only [Act.put, List.setIfInBounds_toArray, List.set_cons_zero, List.set_cons_succ]
          refine wpAnyH_take (i := 13) (oi := { dst := some 79, op := _, type := _, pos := _, after := _, guard := _ }) (v := undef) rfl (by kernel_rfl) (by kernel_rfl) (by kernel_rfl) (fun _ _ _ h => h) (Or.inr ⟨by rfl, rfl⟩) (by assumption) ?r245
          try simp only [Act.put, List.setIfInBounds_toArray, List.set_cons_zero, List.set_cons_succ]
          refine wpAnyH_take (i := 14) (oi := { dst := some 80, op := _, type := _, pos := _, after := _, guard := _ }) (v := undef) rfl (by kernel_rfl) (by kernel_rfl) (by kernel_rfl) (fun _ _ _ h => h) (Or.inr ⟨by rfl, rfl⟩) (by assumption) ?r246
          try simp only [Act.put, List.setIfInBounds_toArray, List.set_cons_zero, List.set_cons_succ]
          refine wpAnyH_take (i := 15) (oi := { dst := some 81, op := _, type := _, pos := _, after := _, guard := _ }) (v := undef) rfl (by kernel_rfl) (by kernel_rfl) (by kernel_rfl) (fun _ _ _ h => h) (Or.inr ⟨by rfl, rfl⟩) (by assumption) ?r247
          try simp only [Act.put, List.setIfInBounds_toArray, List.set_cons_zero, List.set_cons_succ]
          refine wpAnyH_take (i := 16) (oi := { dst := some 82, op := _, type := _, pos := _, after := _, guard := _ }) (v := ?v248) rfl (by kernel_rfl) (by kernel_rfl) (by kernel_rfl) (fun _ _ _ h => h) (Or.inl ⟨by rfl, ?hy248⟩) (by assumption) ?r248
          case hy248 => (intro w hSw; (try dsimp only at hSw); first | (go_simp; done) | (go_simp; with_reducible rfl))
          try simp only [Act.put, List.setIfInBounds_toArray, List.set_cons_zero, List.set_cons_succ]
          refine wpAnyH_take (i := 17) (oi := { dst := some 83, op := _, type := _, pos := _, after := _, guard := _ }) (v := ?v249) rfl (by kernel_rfl) (by kernel_rfl) (by kernel_rfl) (fun _ _ _ h => h) (Or.inl ⟨by rfl, ?hy249⟩) (by assumption) ?r249
          case hy249 => (intro w hSw; (try dsimp only at hSw); first | (go_simp; done) | (go_simp; with_reducible rfl))
          try simp only [Act.put, List.setIfInBounds_toArray, List.set_cons_zero, List.set_cons_succ]
          refine wpAnyH_take (i := 18) (oi := { dst := some 84, op := _, type := _, pos := _, after := _, guard := _ }) (v := ?v250) rfl (by kernel_rfl) (by kernel_rfl) (by kernel_rfl) (fun _ _ _ h => h) (Or.inl ⟨by rfl, ?hy250⟩) (by assumption) ?r250
          case hy250 => (intro w hSw; (try dsimp only at hSw); first | (go_simp; done) | (go_simp; with_reducible rfl))
          try simp only [Act.put, List.setIfInBounds_toArray, List.set_cons_zero, List.set_cons_succ]
          refine wpAnyH_ready (rs := [19]) (by kernel_rfl) (by simp) ?_
          refine AllReadyH.cons (o := { dst := some 85, op := _, type := _, pos := _, after := _, guard := _ }) rfl (fun K hK => ?_) AllReadyH.nil
          go_simp
          (go_at_call 7; refine (alive20 _ (HM.out.below (by go_split_ands; assumption))).mono ?_; rintro e w14 ⟨rfl, hw14⟩; try go_wp2_with fail)
          refine hK.out _ _ ?hS251 (fun hHeld => ?_)
          case hS251 => (go_split_ands; (repeat' apply And.intro) <;> (first | assumption | exact pw_cell_below (by assumption) (by assumption) | exact below_step (by assumption) (by assumption) | exact below_drew1 (by assumption)))
          clear hK K
          try simp only [Act.put, List.setIfInBounds_toArray, List.set_cons_zero, List.set_cons_succ]
          refine wpAnyH_take (i := 20) (oi := { dst := some 86, op := _, type := _, pos := _, after := _, guard := _ }) (v := ?v252) rfl (by kernel_rfl) (by kernel_rfl) (by kernel_rfl) (fun _ _ _ h => h) (Or.inl ⟨by rfl, ?hy252⟩) (by assumption) ?r252
          case hy252 => (intro w hSw; (try dsimp only at hSw); first | (go_simp; done) | (go_simp; with_reducible rfl))
          try simp only [Act.put, List.setIfInBounds_toArray, List.set_cons_zero, List.set_cons_succ]
          refine wpAnyH_take (i := 21) (oi := { dst := some 6, op := _, type := _, pos := _, after := _, guard := _ }) (v := ?v253) rfl (by kernel_rfl) (by kernel_rfl) (by kernel_rfl) (fun _ _ _ h => h) (Or.inl ⟨by rfl, ?hy253⟩) (by assumption) ?r253
          case hy253 => (intro w hSw; (try dsimp only at hSw); first | (go_simp; done) | (go_simp; with_reducible rfl))
          try simp only [Act.put, List.setIfInBounds_toArray, List.set_cons_zero, List.set_cons_succ]
          refine wpAnyH_done (by kernel_rfl) ?_ _
          go_wp2
          go_ret
          exact ⟨rfl, by go_split_ands; assumption⟩
        | true =>
          have hbel := HW13.out
          refine wp_region_held_drew (S := fun w' => w'.cell? ⟨g10, 0, none⟩ = some (.string a.f0.f0) ∧ w'.cell? ⟨g10, 1, none⟩ = some (.bool true) ∧ w'.cell? ⟨g10, 2, none⟩ = some (.bool false) ∧ w'.cell? ⟨g10, 3, none⟩ = some (.slice none 0 0) ∧ w'.cell? ⟨g10, 4, none⟩ = some (.slice none 0 0) ∧ w'.cell? ⟨g10, 5, none⟩ = some (.slice none 0 0) ∧ w'.cell? ⟨g10, 6, none⟩ = some (.slice none 0 0) ∧ w'.cell? ⟨g0, 7, none⟩ = some (.int .u16 a.f1.f0) ∧ w'.cell? ⟨g0, 8, none⟩ = some (.int .i64 a.f1.f1) ∧ w'.cell? ⟨g0, 9, none⟩ = some (.slice A2 a.f1.f2.length c2) ∧ w'.cell? ⟨g0, 10, none⟩ = some (.int .i64 a.f1.f3) ∧ w'.cell? ⟨g0, 11, none⟩ = some (.string a.f1.f4) ∧ w'.cell? ⟨g0, 12, none⟩ = some (.int .i64 a.f1.f5) ∧ w'.cell? ⟨g0, 13, none⟩ = some (.int .i64 a.f1.f6) ∧ w'.cell? ⟨g0, 14, none⟩ = some (.bool true) ∧ w'.cell? ⟨g0, 15, none⟩ = some (.string a.f3) ∧ Below w.heap.size w w') (by kernel_rfl) ?hS254 (fun hHeld => ?_)
          case hS254 => (go_split_ands; (repeat' apply And.intro) <;> (first | assumption | exact pw_cell_below (by assumption) (by assumption) | exact below_step (by assumption) (by assumption) | exact below_drew1 (by assumption)))
          refine wpAnyH_take (i := 0) (oi := { dst := some 66, op := _, type := _, pos := _, after := _, guard := _ }) (v := ?v255) rfl (by kernel_rfl) (by kernel_rfl) (by kernel_rfl) (fun _ _ _ h => h) (Or.inl ⟨by rfl, ?hy255⟩) (by assumption) ?r255
          case hy255 => (intro w hSw; (try dsimp only at hSw); first | (go_simp; done) | (go_simp; with_reducible rfl))
          try simp only [Act.put, List.setIfInBounds_toArray, List.set_cons_zero, List.set_cons_succ]
          refine wpAnyH_take (i := 1) (oi := { dst := some 67, op := _, type := _, pos := _, after := _, guard := _ }) (v := ?v256) rfl (by kernel_rfl) (by kernel_rfl) (by kernel_rfl) (fun _ _ _ h => h) (Or.inl ⟨by rfl, ?hy256⟩) (by assumption) ?r256
          case hy256 => (intro w hSw; (try dsimp only at hSw); first | (go_simp; done) | (go_simp; with_reducible rfl))
          try simp only [Act.put, List.setIfInBounds_toArray, List.set_cons_zero, List.set_cons_succ]
          refine wpAnyH_take (i := 2) (oi := { dst := some 68, op := _, type := _, pos := _, after := _, guard := _ }) (v := ?v257) rfl (by kernel_rfl) (by kernel_rfl) (by kernel_rfl) (fun _ _ _ h => h) (Or.inl ⟨by rfl, ?hy257⟩) (by assumption) ?r257
          case hy257 => (intro w hSw; (try dsimp only at hSw); first | (go_simp; done) | (go_simp; with_reducible rfl))
          try simp only [Act.put, List.setIfInBounds_toArray, List.set_cons_zero, List.set_cons_succ]
          refine wpAnyH_take (i := 3) (oi := { dst := some 69, op := _, type := _, pos := _, after := _, guard := _ }) (v := ?v258) rfl (by kernel_rfl) (by kernel_rfl) (by kernel_rfl) (fun _ _ _ h => h) (Or.inl ⟨by rfl, ?hy258⟩) (by assumption) ?r258
          case hy258 => (intro w hSw; (try dsimp only at hSw); first | (go_simp; done) | (go_simp; with_reducible rfl))
          try simp only [Act.put, List.setIfInBounds_toArray, List.set_cons_zero, List.set_cons_succ]
          refine wpAnyH_take (i := 4) (oi := { dst := some 70, op := _, type := _, pos := _, after := _, guard := _ }) (v := ?v259) rfl (by kernel_rfl) (by kernel_rfl) (by kernel_rfl) (fun _ _ _ h => h) (Or.inl ⟨by rfl, ?hy259⟩) (by assumption) ?r259
          case hy259 => (intro w hSw; (try dsimp only at hSw); first | (go_simp; done) | (go_simp; with_reducible rfl))
          try simp only [Act.put, List.setIfInBounds_toArray, List.set_cons_zero, List.set_cons_succ]
          refine wpAnyH_take (i := 5) (oi := { dst := some 71, op := _, type := _, pos := _, after := _, guard := _ }) (v := ?v260) rfl (by kernel_rfl) (by kernel_rfl) (by kernel_rfl) (fun _ _ _ h => h) (Or.inl ⟨by rfl, ?hy260⟩) (by assumption) ?r260
          case hy260 => (intro w hSw; (try dsimp only at hSw); first | (go_simp; done) | (go_simp; with_reducible rfl))
          try simp only [Act.put, List.setIfInBounds_toArray, List.set_cons_zero, List.set_cons_succ]
          refine wpAnyH_take (i := 6) (oi := { dst := some 72, op := _, type := _, pos := _, after := _, guard := _ }) (v := ?v261) rfl (by kernel_rfl) (by kernel_rfl) (by kernel_rfl) (fun _ _ _ h => h) (Or.inl ⟨by rfl, ?hy261⟩) (by assumption) ?r261
          case hy261 => (intro w hSw; (try dsimp only at hSw); first | (go_simp; done) | (go_simp; with_reducible rfl))
          try simp only [Act.put, List.setIfInBounds_toArray, List.set_cons_zero, List.set_cons_succ]
          refine wpAnyH_take (i := 8) (oi := { dst := some 74, op := _, type := _, pos := _, after := _, guard := _ }) (v := ?v262) rfl (by kernel_rfl) (by kernel_rfl) (by kernel_rfl) (fun _ _ _ h => h) (Or.inl ⟨by rfl, ?hy262⟩) (by assumption) ?r262
          case hy262 => (intro w hSw; (try dsimp only at hSw); first | (go_simp; done) | (go_simp; with_reducible rfl))
          try simp only [Act.put, List.setIfInBounds_toArray, List.set_cons_zero, List.set_cons_succ]
          refine wpAnyH_take (i := 9) (oi := { dst := some 75, op := _, type := _, pos := _, after := _, guard := _ }) (v := ?v263) rfl (by kernel_rfl) (by kernel_rfl) (by kernel_rfl) (fun _ _ _ h => h) (Or.inl ⟨by rfl, ?hy263⟩) (by assumption) ?r263
          case hy263 => (intro w hSw; (try dsimp only at hSw); first | (go_simp; done) | (go_simp; with_reducible rfl))
          try simp only [Act.put, List.setIfInBounds_toArray, List.set_cons_zero, List.set_cons_succ]
          refine wpAnyH_ready (rs := [7]) (by kernel_rfl) (by simp) ?_
          refine AllReadyH.cons (o := { dst := some 73, op := _, type := _, pos := _, after := _, guard := _ }) rfl (fun K hK => ?_) AllReadyH.nil
          go_simp
          (go_at_call 9; refine (as_bool ((acc_bare true _ _).trans (by rw [← HG.out]; rfl : (true && _) = G)) (acc_K _ a.f1 _ _ true a.f3 _ (HM.out.below (by go_split_ands; assumption)) (KB.out _ (by go_split_ands; assumption)) (KS.out _ (by go_split_ands; assumption)) B1.out B2.out (fun x hx => absurd hx (by simp)) (fun x hx => absurd hx (by simp)))).mono ?_; rintro e w14 ⟨rfl, hw14⟩; try go_wp2_with fail)
          refine hK.out _ _ ?hS264 (fun hHeld => ?_)
          case hS264 => (go_split_ands; (repeat' apply And.intro) <;> (first | assumption | exact pw_cell_below (by assumption) (by assumption) | exact below_step (by assumption) (by assumption) | exact below_drew1 (by assumption)))
          clear hK K
          try simp only [Act.put, List.setIfInBounds_toArray, List.set_cons_zero, List.set_cons_succ]
          refine wpAnyH_take (i := 10) (oi := { dst := some 76, op := _, type := _, pos := _, after := _, guard := _ }) (v := ?v265) rfl (by kernel_rfl) (by kernel_rfl) (by kernel_rfl) (fun _ _ _ h => h) (Or.inl ⟨by rfl, ?hy265⟩) (by assumption) ?r265
          case hy265 => (intro w hSw; (try dsimp only at hSw); first | (go_simp; done) | (go_simp; with_reducible rfl))
          try simp only [Act.put, List.setIfInBounds_toArray, List.set_cons_zero, List.set_cons_succ]
          refine wpAnyH_take (i := 11) (oi := { dst := some 77, op := _, type := _, pos := _, after := _, guard := _ }) (v := ?v266) rfl (by kernel_rfl) (by kernel_rfl) (by kernel_rfl) (fun _ _ _ h => h) (Or.inl ⟨by rfl, ?hy266⟩) (by assumption) ?r266
          case hy266 => (intro w hSw; (try dsimp only at hSw); first | (go_simp; done) | (go_simp; with_reducible rfl))
          try simp only [Act.put, List.setIfInBounds_toArray, List.set_cons_zero, List.set_cons_succ]
          refine wpAnyH_take (i := 12) (oi := { dst := some 78, op := _, type := _, pos := _, after := _, guard := _ }) (v := ?v267) rfl (by kernel_rfl) (by kernel_rfl) (by kernel_rfl) (fun _ _ _ h => h) (Or.inl ⟨by rfl, ?hy267⟩) (by assumption) ?r267
          case hy267 => (intro w hSw; (try dsimp only at hSw); first | (go_simp; done) | (go_simp; with_reducible rfl))
          try simp only [Act.put, List.setIfInBounds_toArray, List.set_cons_zero, List.set_cons_succ]
          refine wpAnyH_take (i := 13) (oi := { dst := some 79, op := _, type := _, pos := _, after := _, guard := _ }) (v := ?v268) rfl (by kernel_rfl) (by kernel_rfl) (by kernel_rfl) (fun _ _ _ h => h) (Or.inl ⟨by rfl, ?hy268⟩) (by assumption) ?r268
          case hy268 => (intro w hSw; (try dsimp only at hSw); first | (go_simp; done) | (go_simp; with_reducible rfl))
          try simp only [Act.put, List.setIfInBounds_toArray, List.set_cons_zero, List.set_cons_succ]
          refine wpAnyH_take (i := 14) (oi := { dst := some 80, op := _, type := _, pos := _, after := _, guard := _ }) (v := ?v269) rfl (by kernel_rfl) (by kernel_rfl) (by kernel_rfl) (fun _ _ _ h => h) (Or.inl ⟨by rfl, ?hy269⟩) (by assumption) ?r269
          case hy269 => (intro w hSw; (try dsimp only at hSw); first | (go_simp; done) | (go_simp; with_reducible rfl))
          try simp only [Act.put, List.setIfInBounds_toArray, List.set_cons_zero, List.set_cons_succ]
          refine wpAnyH_ready (rs := [15]) (by kernel_rfl) (by simp) ?_
          refine AllReadyH.cons (o := { dst := some 81, op := _, type := _, pos := _, after := _, guard := _ }) rfl (fun K hK => ?_) AllReadyH.nil
          go_simp
          (go_at_call 10; refine (as_bool HG.out.symm (grey_K a.f1 _ a.f3 _ (HM.out.below (by go_split_ands; assumption)) (KS.out _ (by go_split_ands; assumption)) B1.out B2.out)).mono ?_; rintro e w14 ⟨rfl, hw14⟩; try go_wp2_with fail)
          refine hK.out _ _ ?hS270 (fun hHeld => ?_)
          case hS270 => (go_split_ands; (repeat' apply And.intro) <;> (first | assumption | exact pw_cell_below (by assumption) (by assumption) | exact below_step (by assumption) (by assumption) | exact below_drew1 (by assumption)))
          clear hK K
          try simp only [Act.put, List.setIfInBounds_toArray, List.set_cons_zero, List.set_cons_succ]
          refine wpAnyH_take (i := 16) (oi := { dst := some 82, op := _, type := _, pos := _, after := _, guard := _ }) (v := ?v271) rfl (by kernel_rfl) (by kernel_rfl) (by kernel_rfl) (fun _ _ _ h => h) (Or.inl ⟨by rfl, ?hy271⟩) (by assumption) ?r271
          case hy271 => (intro w hSw; (try dsimp only at hSw); first | (go_simp; done) | (go_simp; with_reducible rfl))
          try simp only [Act.put, List.setIfInBounds_toArray, List.set_cons_zero, List.set_cons_succ]
          refine wpAnyH_take (i := 17) (oi := { dst := some 83, op := _, type := _, pos := _, after := _, guard := _ }) (v := ?v272) rfl (by kernel_rfl) (by kernel_rfl) (by kernel_rfl) (fun _ _ _ h => h) (Or.inl ⟨by rfl, ?hy272⟩) (by assumption) ?r272
          case hy272 => (intro w hSw; (try dsimp only at hSw); first | (go_simp; done) | (go_simp; with_reducible rfl))
          try simp only [Act.put, List.setIfInBounds_toArray, List.set_cons_zero, List.set_cons_succ]
          refine wpAnyH_take (i := 18) (oi := { dst := some 84, op := _, type := _, pos := _, after := _, guard := _ }) (v := ?v273) rfl (by kernel_rfl) (by kernel_rfl) (by kernel_rfl) (fun _ _ _ h => h) (Or.inl ⟨by rfl, ?hy273⟩) (by assumption) ?r273
          case hy273 => (intro w hSw; (try dsimp only at hSw); first | (go_simp; done) | (go_simp; with_reducible rfl))
          try simp only [Act.put, List.setIfInBounds_toArray, List.set_cons_zero, List.set_cons_succ]
          refine wpAnyH_ready (rs := [19]) (by kernel_rfl) (by simp) ?_
          refine AllReadyH.cons (o := { dst := some 85, op := _, type := _, pos := _, after := _, guard := _ }) rfl (fun K hK => ?_) AllReadyH.nil
          go_simp
          (go_at_call 7; refine (alive20 _ (HM.out.below (by go_split_ands; assumption))).mono ?_; rintro e w14 ⟨rfl, hw14⟩; try go_wp2_with fail)
          refine hK.out _ _ ?hS274 (fun hHeld => ?_)
          case hS274 => (go_split_ands; (repeat' apply And.intro) <;> (first | assumption | exact pw_cell_below (by assumption) (by assumption) | exact below_step (by assumption) (by assumption) | exact below_drew1 (by assumption)))
          clear hK K
          try simp only [Act.put, List.setIfInBounds_toArray, List.set_cons_zero, List.set_cons_succ]
          refine wpAnyH_take (i := 20) (oi := { dst := some 86, op := _, type := _, pos := _, after := _, guard := _ }) (v := ?v275) rfl (by kernel_rfl) (by kernel_rfl) (by kernel_rfl) (fun _ _ _ h => h) (Or.inl ⟨by rfl, ?hy275⟩) (by assumption) ?r275
          case hy275 => (intro w hSw; (try dsimp only at hSw); first | (go_simp; done) | (go_simp; with_reducible rfl))
          try simp only [Act.put, List.setIfInBounds_toArray, List.set_cons_zero, List.set_cons_succ]
          refine wpAnyH_take (i := 21) (oi := { dst := some 6, op := _, type := _, pos := _, after := _, guard := _ }) (v := ?v276) rfl (by kernel_rfl) (by kernel_rfl) (by kernel_rfl) (fun _ _ _ h => h) (Or.inl ⟨by rfl, ?hy276⟩) (by assumption) ?r276
          case hy276 => (intro w hSw; (try dsimp only at hSw); first | (go_simp; done) | (go_simp; with_reducible rfl))
          try simp only [Act.put, List.setIfInBounds_toArray, List.set_cons_zero, List.set_cons_succ]
          refine wpAnyH_done (by kernel_rfl) ?_ _
          go_wp2
          go_ret
          exact ⟨rfl, by go_split_ands; assumption⟩

end Go.Proofs.YtdecagihihohkaaDoor.L20
