/- The statement PolicyLinks: a link more lets through what it says, and takes nothing away. -/
import Derived.Test.YtdecagihihohkaaDoorLawG20
import Derived.Test.YtdecagihihohkaaDoorLinkC
import Derived.Deep.RegionHeld3
import Derived.Deep.CutRange
namespace Go.Proofs.YtdecagihihohkaaDoor.L20
open Go Go.RowKit Go.Proofs.YtdecagihihohkaaDoorW.PrintWords Go.Proofs.YtdecagihihohkaaDoor.Kinds Go.Proofs.YtdecagihihohkaaDoor.Str Go.Proofs.YtdecagihihohkaaDoor.Ev Go.Proofs.YtdecagihihohkaaDoor.Frame
set_option linter.unusedVariables false

def restK (first : Bool) (a : S30) : List Value := [.bool first, .string a.f3, .string a.f4, .string a.f5]
theorem takeAll (C : Array Value) : (C.toList.drop 0).take C.toList.length = C.toList := by rw [List.drop_zero, List.take_length]
theorem as_int {P : Program} {f : FuncId} {args : Array Value} {w : World} {b b' : Int} {Q : World → Prop} (h : b = b') (hc : Calls P f args w fun e w' => e = .returned (.int .i64 b) ∧ Q w') : Calls P f args w fun e w' => e = .returned (.int .i64 b') ∧ Q w' := by
  subst h
  exact hc
theorem step_store_cell {P : Program} {ops : Array Oper} {o : Oper} {a : Act} {Q : Exit → Act → World → Prop} {Kc : Act → World → Prop} {W : World} (hgd : Region.wanted o (yielded ops a.tmps) = true) (hdst : o.dst = none) (g j : Nat) (v : Value)
    {C : Array Value} {t : TypeId} (hb : W.heap[g]? = some (.cells C t (0, 0))) (hst : (execOp a.eval o).run P W = .ok .skip (W.setCell ⟨g, j, none⟩ v))
    (h : ∀ w1, w1.heap[g]? = some (.cells (C.setIfInBounds j v) t (0, 0)) → Only (· = g) W w1 → Kc a w1) : if Region.wanted o (yielded ops a.tmps) = true then Oper.wp P o a W Kc Q else Kc (a.put o.dst undef) W := by
  rw [if_pos hgd]
  unfold Oper.wp
  rw [hst]
  show Kc (a.put o.dst undef) _
  rw [hdst]
  exact h _ (blk_set hb j v) (only_setCell W g j v)

set_option maxRecDepth 100000 in
set_option maxHeartbeats 8000000 in
theorem links_walk (a : S30) (first : Bool) (hf : a.f2 = first) (sp st : Array Value) (C : Array Value) (l : S32) (L : Array Value) (w : World) (hm : Mx w) (hC : C.toList = sp.toList ++ (st.toList ++ restK first a)) (hsp : k25.K w a.f0 sp.toList) (hst : k28.K w a.f1 st.toList) (hl : k32.K w l L.toList)
    (b6 : a.f0.f6.length ≤ 1048576) :
    Calls Tryd.prog 3 #[.agg C, .agg L] w fun e w' => e = .returned (.bool true) ∧ Below w.heap.size w w' := by
  have m1 : sp.toList.length = 7 := k25.K_len hsp
  have m2 : st.toList.length = 7 := k28.K_len hst
  have L1 := Lib.hid (show (C.toList.drop 0).take sp.toList.length = sp.toList by rw [hC, List.drop_zero, List.take_left])
  have E16 : Hid (C[16]? = some (.string a.f4)) := by
    show _ = _
    rw [← Array.getElem?_toList, hC, List.getElem?_append_right (by omega), List.getElem?_append_right (by omega), m1, m2]; rfl
  have E17 : Hid (C[17]? = some (.string a.f5)) := by
    show _ = _
    rw [← Array.getElem?_toList, hC, List.getElem?_append_right (by omega), List.getElem?_append_right (by omega), m1, m2]; rfl
  have HK : Hid (k30.K w a C.toList) := ⟨sp.toList, st.toList ++ restK first a, hC, hsp, ⟨st.toList, restK first a, rfl, hst, ⟨[.bool first], [.string a.f3, .string a.f4, .string a.f5], rfl, by rw [← hf]; rfl, ⟨[.string a.f3], [.string a.f4, .string a.f5], rfl, rfl, ⟨[.string a.f4], [.string a.f5], rfl, rfl, rfl⟩⟩⟩⟩⟩
  have L0 := Lib.hid (takeAll C)
  have hlen : C.toList.length = 18 := by rw [hC, List.length_append, List.length_append, m1, m2]; rfl
  have J25 : (Tryd.prog.info? 25).map (·.size) = some 7 := by kernel_rfl
  have J30 : (Tryd.prog.info? 30).map (·.size) = some 18 := by kernel_rfl
  have I30 : Hid ((Tryd.prog.info? 30).map (·.size) = some C.toList.length) := by rw [hlen]; exact J30
  have I25 : Hid ((Tryd.prog.info? 25).map (·.size) = some sp.toList.length) := by rw [m1]; exact J25
  have SZ : Hid ((#[.string ⟨#[]⟩, .bool false, .bool false, .slice none 0 0, .slice none 0 0, .slice none 0 0, .slice none 0 0] : Array Value).size = sp.size) := by show 7 = sp.size; rw [← m1, Array.length_toList]
  have I25a : Hid ((Tryd.prog.info? 25).map (·.size) = some sp.size) := by rw [← Array.length_toList]; exact I25
  have ONE := Lib.hid (show ∀ v ∈ sp.toList, v.oneCell' = true from fun v hv => k25.K_one hsp v hv)
  obtain ⟨A3, c3, A4, c4, A5, c5, A6, c6, hspe, l3, g3, l4, g4, l5, g5, l6, g6⟩ := k25_open hsp
  have hspa : sp = #[.string a.f0.f0, .bool a.f0.f1, .bool a.f0.f2, .slice A3 a.f0.f3.length c3, .slice A4 a.f0.f4.length c4, .slice A5 a.f0.f5.length c5, .slice A6 a.f0.f6.length c6] := congrArg List.toArray hspe
  have ES : ∀ j, j < 7 → C[j]? = sp[j]? := by
    intro j hj
    rw [← Array.getElem?_toList, hC, List.getElem?_append_left (by omega), ← Array.getElem?_toList]
  have E0 : Hid (C[0]? = some (.string a.f0.f0)) := by show _ = _; rw [ES 0 (by decide), hspa]; rfl
  have E1 : Hid (C[1]? = some (.bool a.f0.f1)) := by show _ = _; rw [ES 1 (by decide), hspa]; rfl
  have E2 : Hid (C[2]? = some (.bool a.f0.f2)) := by show _ = _; rw [ES 2 (by decide), hspa]; rfl
  have E3 : Hid (C[3]? = some (.slice A3 a.f0.f3.length c3)) := by show _ = _; rw [ES 3 (by decide), hspa]; rfl
  have E4 : Hid (C[4]? = some (.slice A4 a.f0.f4.length c4)) := by show _ = _; rw [ES 4 (by decide), hspa]; rfl
  have E5 : Hid (C[5]? = some (.slice A5 a.f0.f5.length c5)) := by show _ = _; rw [ES 5 (by decide), hspa]; rfl
  have E6 : Hid (C[6]? = some (.slice A6 a.f0.f6.length c6)) := by show _ = _; rw [ES 6 (by decide), hspa]; rfl
  have F6 : Hid (sp[6]? = some (.slice A6 a.f0.f6.length c6)) := by rw [hspa]; rfl
  have SPE := Lib.hid hspa
  have G3 := Lib.hid (And.intro l3 g3)
  have G4 := Lib.hid (And.intro l4 g4)
  have G5 := Lib.hid (And.intro l5 g5)
  have G6 := Lib.hid (And.intro l6 g6)
  have Z6 : Hid (a.f0.f6.length ≤ 1048576) := b6
  have KS := Lib.hid (show ∀ W' (h : Below w.heap.size w W'), k25.K W' a.f0 [.string a.f0.f0, .bool a.f0.f1, .bool a.f0.f2, .slice A3 a.f0.f3.length c3, .slice A4 a.f0.f4.length c4, .slice A5 a.f0.f5.length c5, .slice A6 a.f0.f6.length c6] from fun W' h => k25_mk W' a.f0 l3 (Kd.C_below g3 h) l4 (Kd.C_below g4 h) l5 (Kd.C_below g5 h) l6 (Kd.C_below g6 h))
  obtain ⟨B1, d1, hLe, n1, q1⟩ := k32_open hl
  obtain rfl : L = _ := congrArg List.toArray hLe
  have KL := Lib.hid (show ∀ W' (h : Below w.heap.size w W'), k32.K W' l [.string l.f0, .slice B1 l.f1.length d1, .bool l.f2] from fun W' h => k32_mk W' l n1 (Kd.C_below q1 h))
  have HM := Lib.hid hm
  have HST := Lib.hid hst
  have U25 := Lib.hid Tryd.underlying25
  have U30 := Lib.hid Tryd.underlying30
  have hu2 := Tryd.underlying32
  have x6 : a.f0.f6.length ≤ 9223372036854775807 := by omega
  have X6 := Lib.hid x6
  clear x6 ES hspe hspa l3 l4 l5 l6 g3 g4 g5 g6 b6 hlen hm hsp hst m1 m2 hl hLe n1 q1 hC J25 J30 hf
  go_enter Tryd.func3, Tryd.ntmps3
  go_wp2_with (first
    | ((with_reducible refine gate_dst (N := 2) rfl ?_); refine box_event ?hg (N := 2) ?hd (cs := C) (t := 30) ?hr ?_; (case hd => rfl); (case hg => rfl); (case hr => first | (go_simp; done) | (go_simp; rfl)); intro g0 hg_ w0 hb_ hw_; have HB0 := Lib.hid hb_; have HW0 := Lib.hid hw_; have HG0 := Lib.hid (show w.heap.size ≤ g0 by omega); clear hb_ hw_ hg_)
    | ((with_reducible refine gate_dst (N := 3) rfl ?_); refine box_event ?hg (N := 3) ?hd (cs := #[.string l.f0, .slice B1 l.f1.length d1, .bool l.f2]) (t := 32) ?hr ?_; (case hd => rfl); (case hg => rfl); (case hr => first | (go_simp; done) | (go_simp; rfl)); intro g1 hg_ w1 hb_ hw_; have HL1 := Lib.hid hb_; have HB1 := Lib.hid (blk_below HB0.out hw_); have HW1 := Lib.hid (below_then HW0.out HW0.out.size hw_); have HG1 := Lib.hid (show w.heap.size ≤ g1 by have := HW0.out.size; omega); have N01 := Lib.hid (show g0 ≠ g1 by have := blk_lt HB0.out; omega); clear hb_ hw_ hg_)
    | (with_reducible refine ev_load rfl 30 (.tmp 2) rfl _ _ rfl HB1.out C.toList L0.out U30.out rfl I30.out ?_))
  refine (great_K a C _ (k30.K_below HW1.out HK.out)).mono ?_
  rintro e w2 ⟨b, rfl, hb2⟩
  have HB2 := Lib.hid (blk_below HB1.out hb2)
  have HL2 := Lib.hid (blk_below HL1.out hb2)
  have HW2 := Lib.hid (below_then HW1.out HW1.out.size hb2)
  clear HW1 HB1 HL1 HB0 HW0 hb2
  cases b with
  | true =>
    go_wp2
    go_ret
    exact ⟨rfl, HW2.out⟩
  | false =>
    have y1 := cell_blk HL2.out (j := 1) rfl
    by_cases hd : 60 < l.f1.length
    · have hd1 : decide (60 < l.f1.length) = true := decide_eq_true hd
      go_wp2
      go_ret
      exact ⟨rfl, HW2.out⟩
    · have hd1 : decide (60 < l.f1.length) = false := decide_eq_false hd
      go_upto_region 4 with (first
        | (with_reducible refine ev_load rfl 25 (.tmp 16) rfl _ _ rfl HB2.out sp.toList L1.out U25.out rfl I25.out ?_)
        | ((with_reducible refine gate_dst (N := 5) rfl ?_); refine box_event ?hg (N := 5) ?hd (cs := #[.string ⟨#[]⟩, .bool false, .bool false, .slice none 0 0, .slice none 0 0, .slice none 0 0, .slice none 0 0]) (t := 25) ?hr ?_; (case hd => rfl); (case hg => rfl); (case hr => first | (go_simp; done) | (go_simp; rfl)); intro g5 hg_ w3 hb_ hw_; have HX3 := Lib.hid hb_; have HG5 := Lib.hid (show w.heap.size ≤ g5 by have := HW2.out.size; omega); have HB3 := Lib.hid (blk_below HB2.out hw_); have HL3 := Lib.hid (blk_below HL2.out hw_); have HW3 := Lib.hid (below_then HW2.out HW2.out.size hw_); have N05 := Lib.hid (show g0 ≠ g5 by have := blk_lt HB2.out; omega); have N15 := Lib.hid (show g1 ≠ g5 by have := blk_lt HL2.out; omega); clear hb_ hw_ hg_)
        | (with_reducible refine ev_store_all rfl rfl 25 (.tmp 5) (.tmp 17) rfl _ rfl sp rfl HX3.out SZ.out I25a.out ONE.out ?_; intro w4 hb_ ho_; have HX4 := Lib.hid hb_; have HB4 := Lib.hid (ho_.blk HB3.out N05.out); have HL4 := Lib.hid (ho_.blk HL3.out N15.out); have HW4 := Lib.hid (below_only HW3.out ho_ (fun i hi => by rw [hi]; exact HG5.out)); clear hb_ ho_))
      clear y1 hd hd1
      simp only [Act.put, List.setIfInBounds_toArray, List.set_cons_zero, List.set_cons_succ]
      go_cut [] from 18 to 26 (fun wc => ∃ (A9 : Option Addr) (c9 : Nat), wc.heap[g0]? = some (.cells C 30 (0, 0)) ∧ wc.heap[g1]? = some (.cells #[.string l.f0, .slice B1 l.f1.length d1, .bool l.f2] 32 (0, 0)) ∧ wc.heap[g5]? = some (.cells #[.string a.f0.f0, .bool a.f0.f1, .bool a.f0.f2, .slice A3 a.f0.f3.length c3, .slice A4 a.f0.f4.length c4, .slice A5 a.f0.f5.length c5, .slice A9 (a.f0.f6.length + 1) c9] 25 (0, 0)) ∧ a.f0.f6.length + 1 ≤ c9 ∧ k32.C wc A9 (a.f0.f6.length + 1) (a.f0.f6 ++ [l]) ∧ Below w.heap.size w wc)
      case first =>
        have d06 := cell_blk HB4.out E6.out
        have d10 := cell_blk HL4.out (j := 0) rfl
        have d11 := cell_blk HL4.out (j := 1) rfl
        have d12 := cell_blk HL4.out (j := 2) rfl
        have hbel := HW4.out
        have hst4 : w4.heap.size ≤ w4.heap.size := Nat.le_refl _
        refine wp_region_held_drew (S := (fun w' => w'.cell? ⟨g0, 6, none⟩ = some (.slice A6 a.f0.f6.length c6) ∧ w'.cell? ⟨g1, 0, none⟩ = some (.string l.f0) ∧ w'.cell? ⟨g1, 1, none⟩ = some (.slice B1 l.f1.length d1) ∧ w'.cell? ⟨g1, 2, none⟩ = some (.bool l.f2) ∧ Below w.heap.size w w')) (by kernel_rfl) ?hS (fun hHeld => ?_)
        case hS => exact ⟨d06, d10, d11, d12, below_drew1 hbel⟩
        have HBd : Hid (w4.drew.heap[g0]? = some (.cells C 30 (0, 0))) := HB4.out
        have HLd : Hid (w4.drew.heap[g1]? = some (.cells #[.string l.f0, .slice B1 l.f1.length d1, .bool l.f2] 32 (0, 0))) := HL4.out
        have HXd : Hid (w4.drew.heap[g5]? = some (.cells sp 25 (0, 0))) := HX4.out
        clear d06 d10 d11 d12 hbel hst4
        refine wpAnyH_take (i := 1) (oi := { dst := some 19, op := _, type := _, pos := _, after := _, guard := _ }) (v := ?v1) rfl (by kernel_rfl) (by kernel_rfl) (by kernel_rfl) (fun _ _ _ h => h) (Or.inl ⟨by rfl, ?hy1⟩) (by assumption) ?r1
        case hy1 => (intro w hSw; (try dsimp only at hSw); first | (go_simp; done) | (go_simp; with_reducible rfl))
        try simp only [Act.put, List.setIfInBounds_toArray, List.set_cons_zero, List.set_cons_succ]
        refine wpAnyH_take (i := 2) (oi := { dst := some 20, op := _, type := _, pos := _, after := _, guard := _ }) (v := ?v2) rfl (by kernel_rfl) (by kernel_rfl) (by kernel_rfl) (fun _ _ _ h => h) (Or.inl ⟨by rfl, ?hy2⟩) (by assumption) ?r2
        case hy2 => (intro w hSw; (try dsimp only at hSw); first | (go_simp; done) | (go_simp; with_reducible rfl))
        try simp only [Act.put, List.setIfInBounds_toArray, List.set_cons_zero, List.set_cons_succ]
        refine wpAnyH_take (i := 3) (oi := { dst := some 21, op := _, type := _, pos := _, after := _, guard := _ }) (v := ?v3) rfl (by kernel_rfl) (by kernel_rfl) (by kernel_rfl) (fun _ _ _ h => h) (Or.inl ⟨by rfl, ?hy3⟩) (by assumption) ?r3
        case hy3 => (intro w hSw; (try dsimp only at hSw); first | (go_simp; done) | (go_simp; with_reducible rfl))
        try simp only [Act.put, List.setIfInBounds_toArray, List.set_cons_zero, List.set_cons_succ]
        refine wpAnyH_take (i := 5) (oi := { dst := some 23, op := _, type := _, pos := _, after := _, guard := _ }) (v := ?v4) rfl (by kernel_rfl) (by kernel_rfl) (by kernel_rfl) (fun _ _ _ h => h) (Or.inl ⟨by rfl, ?hy4⟩) (by assumption) ?r4
        case hy4 => (intro w hSw; (try dsimp only at hSw); first | (go_simp; done) | (go_simp; with_reducible rfl))
        try simp only [Act.put, List.setIfInBounds_toArray, List.set_cons_zero, List.set_cons_succ]
        have HB_0 := HBd; have HL_0 := HLd; have HX_0 := HXd
        refine wpAnyH_ready (rs := [0, 6]) (by kernel_rfl) (by simp) ?_
        refine AllReadyH.cons (o := { dst := some 18, op := _, type := _, pos := _, after := _, guard := _ }) rfl (fun K hK => ?_) ?_
        · skip
          refine Kd.R_lit_step (view k32 w) (w0 := w) w.heap.size 32 rfl (N := 18) rfl (xs := ([] : List S32)) (inner := ([] : List Value)) (ok := fun k => k = (w4.drew).heap.size) (okp := fun _ => False) ?hr5 ?hrep5 (fun k hk => hk.elim) rfl ?hB5 ?hbase5 (by simp) ?_
          case hr5 => first | (go_simp; done) | (go_simp; rfl)
          case hrep5 => exact ⟨rfl, fun j q hj => by simp at hj⟩
          case hB5 => go_split_ands; assumption
          case hbase5 => go_split_ands; exact Below.size (by assumption)
          intro v18 x1 hR_ hB_ hg_ hown_
          have HR18_1 := Lib.hid hR_
          have HW_1 := Lib.hid hB_
          have ON := only_grown hg_
          have BE : Below (w4.drew).heap.size (w4.drew) x1 := ON.below (by simp)
          have SZ_1 := Lib.hid (show (w4.drew).heap.size ≤ x1.heap.size from hg_.size)
          have HB_1 := Lib.hid (blk_below HB_0.out BE)
          have HL_1 := Lib.hid (blk_below HL_0.out BE)
          have HX_1 := Lib.hid (blk_below HX_0.out BE)
          have OW18 := Lib.hid (show ∃ b, v18.ownBlock = some b ∧ (w4.drew).heap.size ≤ b from hown_)
          have BB := hB_
          clear hR_ hB_ hg_ hown_ ON
          have q06 := cell_blk HB_1.out E6.out
          have q10 := cell_blk HL_1.out (j := 0) rfl
          have q11 := cell_blk HL_1.out (j := 1) rfl
          have q12 := cell_blk HL_1.out (j := 2) rfl
          refine hK.out _ _ ⟨q06, q10, q11, q12, BB⟩ (fun hHeld => ?_)
          clear hK K q06 q10 q11 q12 BB
          try simp only [Act.put, List.setIfInBounds_toArray, List.set_cons_zero, List.set_cons_succ]
          refine wpAnyH_ready (rs := [4, 6]) (by kernel_rfl) (by simp) ?_
          refine AllReadyH.cons (o := { dst := some 22, op := _, type := _, pos := _, after := _, guard := _ }) rfl (fun K hK => ?_) ?_
          · skip
            refine Kd.R_append_rows_step (view k32 w) (Rr := k32.K w) (w0 := w) w.heap.size rfl (.tmp 18) (.tmp 21) 23 32 (.agg #[.string ⟨#[]⟩, .slice none 0 0, .bool false]) 48 rfl Tryd.underlying23 (by kernel_rfl) rfl (show 0 < 3 by decide) (by decide) v18 ([] : List S32) a.f0.f6 A6 a.f0.f6.length c6 (fun k => k = (w4.drew).heap.size ∨ (x1).heap.size ≤ k) (fun _ => False) rfl rfl (Kd.R_mono HR18_1.out (fun k hk => Or.inl hk)) (ReadsRow.imp_ G6.out.2 (by go_split_ands; assumption) (fun _ _ h => h)) (fun _ _ h => h) (fun k hk => hk.elim) (fun k hk => Or.inr hk) (by go_split_ands; assumption) (by go_split_ands; exact Below.size (by assumption)) (by have := Z6.out; simp; omega) ?_
            intro v22 x2 hR_ hB_ hg_ hat_
            have HR22_2 := Lib.hid hR_
            have ON := only_grown hg_
            have SZ_2 := Lib.hid (show (x1).heap.size ≤ x2.heap.size from hg_.size)
            have NR : ∀ g, g < w4.heap.size → ¬ (some g = v18.ownBlock) := fun g hg he => by have h1 := HR18_1.out.1 g he.symm; dsimp only at h1; have z1 := SZ_1.out; have z0 : w4.drew.heap.size = w4.heap.size := rfl; omega
            have HB_2 := Lib.hid (ON.blk HB_1.out (NR _ (blk_lt HB4.out)))
            have HL_2 := Lib.hid (ON.blk HL_1.out (NR _ (blk_lt HL4.out)))
            have HX_2 := Lib.hid (ON.blk HX_1.out (NR _ (blk_lt HX4.out)))
            have BB := hB_
            clear hR_ hB_ hg_ hat_ NR ON
            have q06 := cell_blk HB_2.out E6.out
            have q10 := cell_blk HL_2.out (j := 0) rfl
            have q11 := cell_blk HL_2.out (j := 1) rfl
            have q12 := cell_blk HL_2.out (j := 2) rfl
            refine hK.out _ _ ⟨q06, q10, q11, q12, BB⟩ (fun hHeld => ?_)
            clear hK K q06 q10 q11 q12 BB
            try simp only [Act.put, List.setIfInBounds_toArray, List.set_cons_zero, List.set_cons_succ]
            refine wpAnyH_ready (rs := [6]) (by kernel_rfl) (by simp) ?_
            refine AllReadyH.cons (o := { dst := some 24, op := _, type := _, pos := _, after := _, guard := _ }) rfl (fun K hK => ?_) ?_
            · skip
              refine Kd.R_lit_step (view k32 w) (w0 := w) w.heap.size 32 rfl (N := 24) rfl (xs := [l]) (inner := [.string l.f0, .slice B1 l.f1.length d1, .bool l.f2]) (ok := fun k => k = (x2).heap.size) (okp := fun _ => False) ?hr7 ?hrep7 (fun k hk => hk.elim) rfl ?hB7 ?hbase7 (by simp) ?_
              case hr7 => first | (go_simp; done) | (go_simp; rfl)
              case hrep7 => exact ⟨rfl, fun j q hj => by match j, hj with | 0, hj => (obtain rfl : l = q := (by simpa using hj)); exact KL.out w (Below.refl _ _)⟩
              case hB7 => go_split_ands; assumption
              case hbase7 => go_split_ands; exact Below.size (by assumption)
              intro v24 x3 hR_ hB_ hg_ hown_
              have HR24_3 := Lib.hid hR_
              have HW_3 := Lib.hid hB_
              have ON := only_grown hg_
              have BE : Below (x2).heap.size (x2) x3 := ON.below (by simp)
              have SZ_3 := Lib.hid (show (x2).heap.size ≤ x3.heap.size from hg_.size)
              have HB_3 := Lib.hid (blk_below HB_2.out BE)
              have HL_3 := Lib.hid (blk_below HL_2.out BE)
              have HX_3 := Lib.hid (blk_below HX_2.out BE)
              have HR22_3 := Lib.hid (Kd.R_below HR22_2.out BE)
              have OW24 := Lib.hid (show ∃ b, v24.ownBlock = some b ∧ (x2).heap.size ≤ b from hown_)
              have W24 := Lib.hid (rfl : (x2).heap.size = (x2).heap.size)
              have BB := hB_
              clear hR_ hB_ hg_ hown_ ON
              have q06 := cell_blk HB_3.out E6.out
              have q10 := cell_blk HL_3.out (j := 0) rfl
              have q11 := cell_blk HL_3.out (j := 1) rfl
              have q12 := cell_blk HL_3.out (j := 2) rfl
              refine hK.out _ _ ⟨q06, q10, q11, q12, BB⟩ (fun hHeld => ?_)
              clear hK K q06 q10 q11 q12 BB
              try simp only [Act.put, List.setIfInBounds_toArray, List.set_cons_zero, List.set_cons_succ]
              refine wpAnyH_ready (rs := [7]) (by kernel_rfl) (by simp) ?_
              refine AllReadyH.cons (o := { dst := some 25, op := _, type := _, pos := _, after := _, guard := _ }) rfl (fun K hK => ?_) ?_
              · skip
                obtain ⟨A24, c24, rfl, le24, C24⟩ := Kd.R_reads HR24_3.out
                refine Kd.R_append_rows_step (view k32 w) (Rr := k32.K w) (w0 := w) w.heap.size rfl (.tmp 22) (.tmp 24) 23 32 (.agg #[.string ⟨#[]⟩, .slice none 0 0, .bool false]) 48 rfl Tryd.underlying23 (by kernel_rfl) rfl (show 0 < 3 by decide) (by decide) v22 ([] ++ a.f0.f6) [l] A24 [l].length c24 (fun k => (k = (w4.drew).heap.size ∨ (x1).heap.size ≤ k) ∨ (x3).heap.size ≤ k) (fun _ => False) rfl rfl (Kd.R_mono HR22_3.out (fun k hk => Or.inl hk)) C24 (fun _ _ h => h) (fun k hk => hk.elim) (fun k hk => Or.inr hk) (by go_split_ands; assumption) (by go_split_ands; exact Below.size (by assumption)) (by have := Z6.out; simp; omega) ?_
                intro v25 x4 hR_ hB_ hg_ hat_
                have HR25_4 := Lib.hid hR_
                have ON := only_grown hg_
                have SZ_4 := Lib.hid (show (x3).heap.size ≤ x4.heap.size from hg_.size)
                have NR : ∀ g, g < w4.heap.size → ¬ (some g = v22.ownBlock) := fun g hg he => by have h1 := HR22_3.out.1 g he.symm; dsimp only at h1; have z1 := SZ_1.out; have z2 := SZ_2.out; have z3 := SZ_3.out; have z0 : w4.drew.heap.size = w4.heap.size := rfl; omega
                have HB_4 := Lib.hid (ON.blk HB_3.out (NR _ (blk_lt HB4.out)))
                have HL_4 := Lib.hid (ON.blk HL_3.out (NR _ (blk_lt HL4.out)))
                have HX_4 := Lib.hid (ON.blk HX_3.out (NR _ (blk_lt HX4.out)))
                have BB := hB_
                clear hR_ hB_ hg_ hat_ NR ON
                have q06 := cell_blk HB_4.out E6.out
                have q10 := cell_blk HL_4.out (j := 0) rfl
                have q11 := cell_blk HL_4.out (j := 1) rfl
                have q12 := cell_blk HL_4.out (j := 2) rfl
                refine hK.out _ _ ⟨q06, q10, q11, q12, BB⟩ (fun hHeld => ?_)
                clear hK K q06 q10 q11 q12 BB
                try simp only [Act.put, List.setIfInBounds_toArray, List.set_cons_zero, List.set_cons_succ]
                obtain ⟨A9, c9, hv25, l9, C9⟩ := Kd.R_reads HR25_4.out
                have hle : ([] ++ a.f0.f6 ++ [l]).length = a.f0.f6.length + 1 := by simp
                have hls : [] ++ a.f0.f6 ++ [l] = a.f0.f6 ++ [l] := by simp
                rw [hle] at hv25 l9 C9
                rw [hls] at C9
                have OK25 := Lib.hid HR25_4.out.1
                have K9 := Lib.hid C9
                subst hv25
                have V9 := Lib.hid l9
                clear l9 C9 hle hls
                refine wpAnyH_take (i := 8) (oi := { dst := some 26, op := _, type := _, pos := _, after := _, guard := _ }) (v := ?v9) rfl (by kernel_rfl) (by kernel_rfl) (by kernel_rfl) (fun _ _ _ h => h) (Or.inl ⟨by rfl, ?hy9⟩) (by assumption) ?r9
                case hy9 => (intro w hSw; (try dsimp only at hSw); first | (go_simp; done) | (go_simp; with_reducible rfl))
                try simp only [Act.put, List.setIfInBounds_toArray, List.set_cons_zero, List.set_cons_succ]
                refine wpAnyH_ready (rs := [9]) (by kernel_rfl) (by simp) ?_
                refine AllReadyH.cons (o := { dst := none, op := _, type := _, pos := _, after := _, guard := _ }) rfl (fun K hK => ?_) AllReadyH.nil
                refine step_store_cell rfl rfl g5 6 (.slice A9 (a.f0.f6.length + 1) c9) HX_4.out ?hst8 ?_
                case hst8 => (have f1 := cell_blk HX_4.out F6.out; have f2 := blk_frozen HX_4.out 6; first | (go_simp; done) | (go_simp; rfl))
                intro wz hbz hoz
                have HWz : Below w.heap.size w wz := below_only (by go_split_ands; assumption) hoz (fun i hi => by rw [hi]; exact HG5.out)
                have HBz := hoz.blk HB_4.out N05.out
                have HLz := hoz.blk HL_4.out N15.out
                refine hK.out _ _ ⟨cell_blk HBz E6.out, cell_blk HLz (j := 0) rfl, cell_blk HLz (j := 1) rfl, cell_blk HLz (j := 2) rfl, HWz⟩ (fun hHeld2 => ?_)
                clear hK K
                try simp only [Act.put, List.setIfInBounds_toArray, List.set_cons_zero, List.set_cons_succ]
                refine wpAnyH_done (by kernel_rfl) ?_ _
                go_wp2_with fail
                go_meet
                refine ⟨A9, c9, HBz, HLz, ?_, V9.out, ?_, HWz⟩
                · rw [hbz, SPE.out]; rfl
                · have RZ := Kd.R_step HR25_4.out (w1 := wz) (fun k hk hlt => hoz.block k hlt (fun he => by have h1 := blk_lt HX4.out; (try dsimp only at hk); have z1 := SZ_1.out; have z2 := SZ_2.out; have z3 := SZ_3.out; have z0 : w4.drew.heap.size = w4.heap.size := rfl; omega))
                  have hle : ([] ++ a.f0.f6 ++ [l]).length = a.f0.f6.length + 1 := by simp
                  have hls : [] ++ a.f0.f6 ++ [l] = a.f0.f6 ++ [l] := by simp
                  obtain ⟨_, _, h3⟩ := Kd.R_reads' RZ
                  rw [hle, hls] at h3
                  exact view_C h3 HWz
              exact AllReadyH.nil
            exact AllReadyH.nil
          refine AllReadyH.cons (o := { dst := some 24, op := _, type := _, pos := _, after := _, guard := _ }) rfl (fun K hK => ?_) ?_
          · skip
            refine Kd.R_lit_step (view k32 w) (w0 := w) w.heap.size 32 rfl (N := 24) rfl (xs := [l]) (inner := [.string l.f0, .slice B1 l.f1.length d1, .bool l.f2]) (ok := fun k => k = (x1).heap.size) (okp := fun _ => False) ?hr10 ?hrep10 (fun k hk => hk.elim) rfl ?hB10 ?hbase10 (by simp) ?_
            case hr10 => first | (go_simp; done) | (go_simp; rfl)
            case hrep10 => exact ⟨rfl, fun j q hj => by match j, hj with | 0, hj => (obtain rfl : l = q := (by simpa using hj)); exact KL.out w (Below.refl _ _)⟩
            case hB10 => go_split_ands; assumption
            case hbase10 => go_split_ands; exact Below.size (by assumption)
            intro v24 x2 hR_ hB_ hg_ hown_
            have HR24_2 := Lib.hid hR_
            have HW_2 := Lib.hid hB_
            have ON := only_grown hg_
            have BE : Below (x1).heap.size (x1) x2 := ON.below (by simp)
            have SZ_2 := Lib.hid (show (x1).heap.size ≤ x2.heap.size from hg_.size)
            have HB_2 := Lib.hid (blk_below HB_1.out BE)
            have HL_2 := Lib.hid (blk_below HL_1.out BE)
            have HX_2 := Lib.hid (blk_below HX_1.out BE)
            have HR18_2 := Lib.hid (Kd.R_below HR18_1.out BE)
            have OW24 := Lib.hid (show ∃ b, v24.ownBlock = some b ∧ (x1).heap.size ≤ b from hown_)
            have W24 := Lib.hid (rfl : (x1).heap.size = (x1).heap.size)
            have BB := hB_
            clear hR_ hB_ hg_ hown_ ON
            have q06 := cell_blk HB_2.out E6.out
            have q10 := cell_blk HL_2.out (j := 0) rfl
            have q11 := cell_blk HL_2.out (j := 1) rfl
            have q12 := cell_blk HL_2.out (j := 2) rfl
            refine hK.out _ _ ⟨q06, q10, q11, q12, BB⟩ (fun hHeld => ?_)
            clear hK K q06 q10 q11 q12 BB
            try simp only [Act.put, List.setIfInBounds_toArray, List.set_cons_zero, List.set_cons_succ]
            refine wpAnyH_ready (rs := [4]) (by kernel_rfl) (by simp) ?_
            refine AllReadyH.cons (o := { dst := some 22, op := _, type := _, pos := _, after := _, guard := _ }) rfl (fun K hK => ?_) ?_
            · skip
              refine Kd.R_append_rows_step (view k32 w) (Rr := k32.K w) (w0 := w) w.heap.size rfl (.tmp 18) (.tmp 21) 23 32 (.agg #[.string ⟨#[]⟩, .slice none 0 0, .bool false]) 48 rfl Tryd.underlying23 (by kernel_rfl) rfl (show 0 < 3 by decide) (by decide) v18 ([] : List S32) a.f0.f6 A6 a.f0.f6.length c6 (fun k => k = (w4.drew).heap.size ∨ (x2).heap.size ≤ k) (fun _ => False) rfl rfl (Kd.R_mono HR18_2.out (fun k hk => Or.inl hk)) (ReadsRow.imp_ G6.out.2 (by go_split_ands; assumption) (fun _ _ h => h)) (fun _ _ h => h) (fun k hk => hk.elim) (fun k hk => Or.inr hk) (by go_split_ands; assumption) (by go_split_ands; exact Below.size (by assumption)) (by have := Z6.out; simp; omega) ?_
              intro v22 x3 hR_ hB_ hg_ hat_
              have HR22_3 := Lib.hid hR_
              have ON := only_grown hg_
              have SZ_3 := Lib.hid (show (x2).heap.size ≤ x3.heap.size from hg_.size)
              have NR : ∀ g, g < w4.heap.size → ¬ (some g = v18.ownBlock) := fun g hg he => by have h1 := HR18_2.out.1 g he.symm; dsimp only at h1; have z1 := SZ_1.out; have z2 := SZ_2.out; have z0 : w4.drew.heap.size = w4.heap.size := rfl; omega
              have HB_3 := Lib.hid (ON.blk HB_2.out (NR _ (blk_lt HB4.out)))
              have HL_3 := Lib.hid (ON.blk HL_2.out (NR _ (blk_lt HL4.out)))
              have HX_3 := Lib.hid (ON.blk HX_2.out (NR _ (blk_lt HX4.out)))
              have HR24_3 := Lib.hid (Kd.R_step HR24_2.out (fun k hk hlt => ON.block k hlt (fun he => by have h1 := HR18_2.out.1 k he.symm; dsimp only at h1 hk; obtain ⟨b1, e1, f1⟩ := OW18.out; obtain ⟨b2, e2, f2⟩ := OW24.out; have t1 := HR18_2.out.1 b1 e1; have t2 := HR24_2.out.1 b2 e2; have t3 := ((Kd.R_bound HR18_1.out).1 b1 e1).2.2.1; dsimp only at t1 t2 t3; omega)))
              have BB := hB_
              clear hR_ hB_ hg_ hat_ NR ON
              have q06 := cell_blk HB_3.out E6.out
              have q10 := cell_blk HL_3.out (j := 0) rfl
              have q11 := cell_blk HL_3.out (j := 1) rfl
              have q12 := cell_blk HL_3.out (j := 2) rfl
              refine hK.out _ _ ⟨q06, q10, q11, q12, BB⟩ (fun hHeld => ?_)
              clear hK K q06 q10 q11 q12 BB
              try simp only [Act.put, List.setIfInBounds_toArray, List.set_cons_zero, List.set_cons_succ]
              refine wpAnyH_ready (rs := [7]) (by kernel_rfl) (by simp) ?_
              refine AllReadyH.cons (o := { dst := some 25, op := _, type := _, pos := _, after := _, guard := _ }) rfl (fun K hK => ?_) ?_
              · skip
                obtain ⟨A24, c24, rfl, le24, C24⟩ := Kd.R_reads HR24_3.out
                refine Kd.R_append_rows_step (view k32 w) (Rr := k32.K w) (w0 := w) w.heap.size rfl (.tmp 22) (.tmp 24) 23 32 (.agg #[.string ⟨#[]⟩, .slice none 0 0, .bool false]) 48 rfl Tryd.underlying23 (by kernel_rfl) rfl (show 0 < 3 by decide) (by decide) v22 ([] ++ a.f0.f6) [l] A24 [l].length c24 (fun k => (k = (w4.drew).heap.size ∨ (x2).heap.size ≤ k) ∨ (x3).heap.size ≤ k) (fun _ => False) rfl rfl (Kd.R_mono HR22_3.out (fun k hk => Or.inl hk)) C24 (fun _ _ h => h) (fun k hk => hk.elim) (fun k hk => Or.inr hk) (by go_split_ands; assumption) (by go_split_ands; exact Below.size (by assumption)) (by have := Z6.out; simp; omega) ?_
                intro v25 x4 hR_ hB_ hg_ hat_
                have HR25_4 := Lib.hid hR_
                have ON := only_grown hg_
                have SZ_4 := Lib.hid (show (x3).heap.size ≤ x4.heap.size from hg_.size)
                have NR : ∀ g, g < w4.heap.size → ¬ (some g = v22.ownBlock) := fun g hg he => by have h1 := HR22_3.out.1 g he.symm; dsimp only at h1; have z1 := SZ_1.out; have z2 := SZ_2.out; have z3 := SZ_3.out; have z0 : w4.drew.heap.size = w4.heap.size := rfl; omega
                have HB_4 := Lib.hid (ON.blk HB_3.out (NR _ (blk_lt HB4.out)))
                have HL_4 := Lib.hid (ON.blk HL_3.out (NR _ (blk_lt HL4.out)))
                have HX_4 := Lib.hid (ON.blk HX_3.out (NR _ (blk_lt HX4.out)))
                have BB := hB_
                clear hR_ hB_ hg_ hat_ NR ON
                have q06 := cell_blk HB_4.out E6.out
                have q10 := cell_blk HL_4.out (j := 0) rfl
                have q11 := cell_blk HL_4.out (j := 1) rfl
                have q12 := cell_blk HL_4.out (j := 2) rfl
                refine hK.out _ _ ⟨q06, q10, q11, q12, BB⟩ (fun hHeld => ?_)
                clear hK K q06 q10 q11 q12 BB
                try simp only [Act.put, List.setIfInBounds_toArray, List.set_cons_zero, List.set_cons_succ]
                obtain ⟨A9, c9, hv25, l9, C9⟩ := Kd.R_reads HR25_4.out
                have hle : ([] ++ a.f0.f6 ++ [l]).length = a.f0.f6.length + 1 := by simp
                have hls : [] ++ a.f0.f6 ++ [l] = a.f0.f6 ++ [l] := by simp
                rw [hle] at hv25 l9 C9
                rw [hls] at C9
                have OK25 := Lib.hid HR25_4.out.1
                have K9 := Lib.hid C9
                subst hv25
                have V9 := Lib.hid l9
                clear l9 C9 hle hls
                refine wpAnyH_take (i := 8) (oi := { dst := some 26, op := _, type := _, pos := _, after := _, guard := _ }) (v := ?v13) rfl (by kernel_rfl) (by kernel_rfl) (by kernel_rfl) (fun _ _ _ h => h) (Or.inl ⟨by rfl, ?hy13⟩) (by assumption) ?r13
                case hy13 => (intro w hSw; (try dsimp only at hSw); first | (go_simp; done) | (go_simp; with_reducible rfl))
                try simp only [Act.put, List.setIfInBounds_toArray, List.set_cons_zero, List.set_cons_succ]
                refine wpAnyH_ready (rs := [9]) (by kernel_rfl) (by simp) ?_
                refine AllReadyH.cons (o := { dst := none, op := _, type := _, pos := _, after := _, guard := _ }) rfl (fun K hK => ?_) AllReadyH.nil
                refine step_store_cell rfl rfl g5 6 (.slice A9 (a.f0.f6.length + 1) c9) HX_4.out ?hst12 ?_
                case hst12 => (have f1 := cell_blk HX_4.out F6.out; have f2 := blk_frozen HX_4.out 6; first | (go_simp; done) | (go_simp; rfl))
                intro wz hbz hoz
                have HWz : Below w.heap.size w wz := below_only (by go_split_ands; assumption) hoz (fun i hi => by rw [hi]; exact HG5.out)
                have HBz := hoz.blk HB_4.out N05.out
                have HLz := hoz.blk HL_4.out N15.out
                refine hK.out _ _ ⟨cell_blk HBz E6.out, cell_blk HLz (j := 0) rfl, cell_blk HLz (j := 1) rfl, cell_blk HLz (j := 2) rfl, HWz⟩ (fun hHeld2 => ?_)
                clear hK K
                try simp only [Act.put, List.setIfInBounds_toArray, List.set_cons_zero, List.set_cons_succ]
                refine wpAnyH_done (by kernel_rfl) ?_ _
                go_wp2_with fail
                go_meet
                refine ⟨A9, c9, HBz, HLz, ?_, V9.out, ?_, HWz⟩
                · rw [hbz, SPE.out]; rfl
                · have RZ := Kd.R_step HR25_4.out (w1 := wz) (fun k hk hlt => hoz.block k hlt (fun he => by have h1 := blk_lt HX4.out; (try dsimp only at hk); have z1 := SZ_1.out; have z2 := SZ_2.out; have z3 := SZ_3.out; have z0 : w4.drew.heap.size = w4.heap.size := rfl; omega))
                  have hle : ([] ++ a.f0.f6 ++ [l]).length = a.f0.f6.length + 1 := by simp
                  have hls : [] ++ a.f0.f6 ++ [l] = a.f0.f6 ++ [l] := by simp
                  obtain ⟨_, _, h3⟩ := Kd.R_reads' RZ
                  rw [hle, hls] at h3
                  exact view_C h3 HWz
              exact AllReadyH.nil
            exact AllReadyH.nil
          exact AllReadyH.nil
        refine AllReadyH.cons (o := { dst := some 24, op := _, type := _, pos := _, after := _, guard := _ }) rfl (fun K hK => ?_) ?_
        · skip
          refine Kd.R_lit_step (view k32 w) (w0 := w) w.heap.size 32 rfl (N := 24) rfl (xs := [l]) (inner := [.string l.f0, .slice B1 l.f1.length d1, .bool l.f2]) (ok := fun k => k = (w4.drew).heap.size) (okp := fun _ => False) ?hr14 ?hrep14 (fun k hk => hk.elim) rfl ?hB14 ?hbase14 (by simp) ?_
          case hr14 => first | (go_simp; done) | (go_simp; rfl)
          case hrep14 => exact ⟨rfl, fun j q hj => by match j, hj with | 0, hj => (obtain rfl : l = q := (by simpa using hj)); exact KL.out w (Below.refl _ _)⟩
          case hB14 => go_split_ands; assumption
          case hbase14 => go_split_ands; exact Below.size (by assumption)
          intro v24 x1 hR_ hB_ hg_ hown_
          have HR24_1 := Lib.hid hR_
          have HW_1 := Lib.hid hB_
          have ON := only_grown hg_
          have BE : Below (w4.drew).heap.size (w4.drew) x1 := ON.below (by simp)
          have SZ_1 := Lib.hid (show (w4.drew).heap.size ≤ x1.heap.size from hg_.size)
          have HB_1 := Lib.hid (blk_below HB_0.out BE)
          have HL_1 := Lib.hid (blk_below HL_0.out BE)
          have HX_1 := Lib.hid (blk_below HX_0.out BE)
          have OW24 := Lib.hid (show ∃ b, v24.ownBlock = some b ∧ (w4.drew).heap.size ≤ b from hown_)
          have W24 := Lib.hid (rfl : (w4.drew).heap.size = (w4.drew).heap.size)
          have BB := hB_
          clear hR_ hB_ hg_ hown_ ON
          have q06 := cell_blk HB_1.out E6.out
          have q10 := cell_blk HL_1.out (j := 0) rfl
          have q11 := cell_blk HL_1.out (j := 1) rfl
          have q12 := cell_blk HL_1.out (j := 2) rfl
          refine hK.out _ _ ⟨q06, q10, q11, q12, BB⟩ (fun hHeld => ?_)
          clear hK K q06 q10 q11 q12 BB
          try simp only [Act.put, List.setIfInBounds_toArray, List.set_cons_zero, List.set_cons_succ]
          refine wpAnyH_ready (rs := [0]) (by kernel_rfl) (by simp) ?_
          refine AllReadyH.cons (o := { dst := some 18, op := _, type := _, pos := _, after := _, guard := _ }) rfl (fun K hK => ?_) ?_
          · skip
            refine Kd.R_lit_step (view k32 w) (w0 := w) w.heap.size 32 rfl (N := 18) rfl (xs := ([] : List S32)) (inner := ([] : List Value)) (ok := fun k => k = (x1).heap.size) (okp := fun _ => False) ?hr15 ?hrep15 (fun k hk => hk.elim) rfl ?hB15 ?hbase15 (by simp) ?_
            case hr15 => first | (go_simp; done) | (go_simp; rfl)
            case hrep15 => exact ⟨rfl, fun j q hj => by simp at hj⟩
            case hB15 => go_split_ands; assumption
            case hbase15 => go_split_ands; exact Below.size (by assumption)
            intro v18 x2 hR_ hB_ hg_ hown_
            have HR18_2 := Lib.hid hR_
            have HW_2 := Lib.hid hB_
            have ON := only_grown hg_
            have BE : Below (x1).heap.size (x1) x2 := ON.below (by simp)
            have SZ_2 := Lib.hid (show (x1).heap.size ≤ x2.heap.size from hg_.size)
            have HB_2 := Lib.hid (blk_below HB_1.out BE)
            have HL_2 := Lib.hid (blk_below HL_1.out BE)
            have HX_2 := Lib.hid (blk_below HX_1.out BE)
            have HR24_2 := Lib.hid (Kd.R_below HR24_1.out BE)
            have OW18 := Lib.hid (show ∃ b, v18.ownBlock = some b ∧ (x1).heap.size ≤ b from hown_)
            have BB := hB_
            clear hR_ hB_ hg_ hown_ ON
            have q06 := cell_blk HB_2.out E6.out
            have q10 := cell_blk HL_2.out (j := 0) rfl
            have q11 := cell_blk HL_2.out (j := 1) rfl
            have q12 := cell_blk HL_2.out (j := 2) rfl
            refine hK.out _ _ ⟨q06, q10, q11, q12, BB⟩ (fun hHeld => ?_)
            clear hK K q06 q10 q11 q12 BB
            try simp only [Act.put, List.setIfInBounds_toArray, List.set_cons_zero, List.set_cons_succ]
            refine wpAnyH_ready (rs := [4]) (by kernel_rfl) (by simp) ?_
            refine AllReadyH.cons (o := { dst := some 22, op := _, type := _, pos := _, after := _, guard := _ }) rfl (fun K hK => ?_) ?_
            · skip
              refine Kd.R_append_rows_step (view k32 w) (Rr := k32.K w) (w0 := w) w.heap.size rfl (.tmp 18) (.tmp 21) 23 32 (.agg #[.string ⟨#[]⟩, .slice none 0 0, .bool false]) 48 rfl Tryd.underlying23 (by kernel_rfl) rfl (show 0 < 3 by decide) (by decide) v18 ([] : List S32) a.f0.f6 A6 a.f0.f6.length c6 (fun k => k = (x1).heap.size ∨ (x2).heap.size ≤ k) (fun _ => False) rfl rfl (Kd.R_mono HR18_2.out (fun k hk => Or.inl hk)) (ReadsRow.imp_ G6.out.2 (by go_split_ands; assumption) (fun _ _ h => h)) (fun _ _ h => h) (fun k hk => hk.elim) (fun k hk => Or.inr hk) (by go_split_ands; assumption) (by go_split_ands; exact Below.size (by assumption)) (by have := Z6.out; simp; omega) ?_
              intro v22 x3 hR_ hB_ hg_ hat_
              have HR22_3 := Lib.hid hR_
              have ON := only_grown hg_
              have SZ_3 := Lib.hid (show (x2).heap.size ≤ x3.heap.size from hg_.size)
              have NR : ∀ g, g < w4.heap.size → ¬ (some g = v18.ownBlock) := fun g hg he => by have h1 := HR18_2.out.1 g he.symm; dsimp only at h1; have z1 := SZ_1.out; have z2 := SZ_2.out; have z0 : w4.drew.heap.size = w4.heap.size := rfl; omega
              have HB_3 := Lib.hid (ON.blk HB_2.out (NR _ (blk_lt HB4.out)))
              have HL_3 := Lib.hid (ON.blk HL_2.out (NR _ (blk_lt HL4.out)))
              have HX_3 := Lib.hid (ON.blk HX_2.out (NR _ (blk_lt HX4.out)))
              have HR24_3 := Lib.hid (Kd.R_step HR24_2.out (fun k hk hlt => ON.block k hlt (fun he => by have h1 := HR18_2.out.1 k he.symm; dsimp only at h1 hk; obtain ⟨b1, e1, f1⟩ := OW18.out; obtain ⟨b2, e2, f2⟩ := OW24.out; have t1 := HR18_2.out.1 b1 e1; have t2 := HR24_2.out.1 b2 e2; have t3 := ((Kd.R_bound HR24_1.out).1 b2 e2).2.2.1; dsimp only at t1 t2 t3; omega)))
              have BB := hB_
              clear hR_ hB_ hg_ hat_ NR ON
              have q06 := cell_blk HB_3.out E6.out
              have q10 := cell_blk HL_3.out (j := 0) rfl
              have q11 := cell_blk HL_3.out (j := 1) rfl
              have q12 := cell_blk HL_3.out (j := 2) rfl
              refine hK.out _ _ ⟨q06, q10, q11, q12, BB⟩ (fun hHeld => ?_)
              clear hK K q06 q10 q11 q12 BB
              try simp only [Act.put, List.setIfInBounds_toArray, List.set_cons_zero, List.set_cons_succ]
              refine wpAnyH_ready (rs := [7]) (by kernel_rfl) (by simp) ?_
              refine AllReadyH.cons (o := { dst := some 25, op := _, type := _, pos := _, after := _, guard := _ }) rfl (fun K hK => ?_) ?_
              · skip
                obtain ⟨A24, c24, rfl, le24, C24⟩ := Kd.R_reads HR24_3.out
                refine Kd.R_append_rows_step (view k32 w) (Rr := k32.K w) (w0 := w) w.heap.size rfl (.tmp 22) (.tmp 24) 23 32 (.agg #[.string ⟨#[]⟩, .slice none 0 0, .bool false]) 48 rfl Tryd.underlying23 (by kernel_rfl) rfl (show 0 < 3 by decide) (by decide) v22 ([] ++ a.f0.f6) [l] A24 [l].length c24 (fun k => (k = (x1).heap.size ∨ (x2).heap.size ≤ k) ∨ (x3).heap.size ≤ k) (fun _ => False) rfl rfl (Kd.R_mono HR22_3.out (fun k hk => Or.inl hk)) C24 (fun _ _ h => h) (fun k hk => hk.elim) (fun k hk => Or.inr hk) (by go_split_ands; assumption) (by go_split_ands; exact Below.size (by assumption)) (by have := Z6.out; simp; omega) ?_
                intro v25 x4 hR_ hB_ hg_ hat_
                have HR25_4 := Lib.hid hR_
                have ON := only_grown hg_
                have SZ_4 := Lib.hid (show (x3).heap.size ≤ x4.heap.size from hg_.size)
                have NR : ∀ g, g < w4.heap.size → ¬ (some g = v22.ownBlock) := fun g hg he => by have h1 := HR22_3.out.1 g he.symm; dsimp only at h1; have z1 := SZ_1.out; have z2 := SZ_2.out; have z3 := SZ_3.out; have z0 : w4.drew.heap.size = w4.heap.size := rfl; omega
                have HB_4 := Lib.hid (ON.blk HB_3.out (NR _ (blk_lt HB4.out)))
                have HL_4 := Lib.hid (ON.blk HL_3.out (NR _ (blk_lt HL4.out)))
                have HX_4 := Lib.hid (ON.blk HX_3.out (NR _ (blk_lt HX4.out)))
                have BB := hB_
                clear hR_ hB_ hg_ hat_ NR ON
                have q06 := cell_blk HB_4.out E6.out
                have q10 := cell_blk HL_4.out (j := 0) rfl
                have q11 := cell_blk HL_4.out (j := 1) rfl
                have q12 := cell_blk HL_4.out (j := 2) rfl
                refine hK.out _ _ ⟨q06, q10, q11, q12, BB⟩ (fun hHeld => ?_)
                clear hK K q06 q10 q11 q12 BB
                try simp only [Act.put, List.setIfInBounds_toArray, List.set_cons_zero, List.set_cons_succ]
                obtain ⟨A9, c9, hv25, l9, C9⟩ := Kd.R_reads HR25_4.out
                have hle : ([] ++ a.f0.f6 ++ [l]).length = a.f0.f6.length + 1 := by simp
                have hls : [] ++ a.f0.f6 ++ [l] = a.f0.f6 ++ [l] := by simp
                rw [hle] at hv25 l9 C9
                rw [hls] at C9
                have OK25 := Lib.hid HR25_4.out.1
                have K9 := Lib.hid C9
                subst hv25
                have V9 := Lib.hid l9
                clear l9 C9 hle hls
                refine wpAnyH_take (i := 8) (oi := { dst := some 26, op := _, type := _, pos := _, after := _, guard := _ }) (v := ?v18) rfl (by kernel_rfl) (by kernel_rfl) (by kernel_rfl) (fun _ _ _ h => h) (Or.inl ⟨by rfl, ?hy18⟩) (by assumption) ?r18
                case hy18 => (intro w hSw; (try dsimp only at hSw); first | (go_simp; done) | (go_simp; with_reducible rfl))
                try simp only [Act.put, List.setIfInBounds_toArray, List.set_cons_zero, List.set_cons_succ]
                refine wpAnyH_ready (rs := [9]) (by kernel_rfl) (by simp) ?_
                refine AllReadyH.cons (o := { dst := none, op := _, type := _, pos := _, after := _, guard := _ }) rfl (fun K hK => ?_) AllReadyH.nil
                refine step_store_cell rfl rfl g5 6 (.slice A9 (a.f0.f6.length + 1) c9) HX_4.out ?hst17 ?_
                case hst17 => (have f1 := cell_blk HX_4.out F6.out; have f2 := blk_frozen HX_4.out 6; first | (go_simp; done) | (go_simp; rfl))
                intro wz hbz hoz
                have HWz : Below w.heap.size w wz := below_only (by go_split_ands; assumption) hoz (fun i hi => by rw [hi]; exact HG5.out)
                have HBz := hoz.blk HB_4.out N05.out
                have HLz := hoz.blk HL_4.out N15.out
                refine hK.out _ _ ⟨cell_blk HBz E6.out, cell_blk HLz (j := 0) rfl, cell_blk HLz (j := 1) rfl, cell_blk HLz (j := 2) rfl, HWz⟩ (fun hHeld2 => ?_)
                clear hK K
                try simp only [Act.put, List.setIfInBounds_toArray, List.set_cons_zero, List.set_cons_succ]
                refine wpAnyH_done (by kernel_rfl) ?_ _
                go_wp2_with fail
                go_meet
                refine ⟨A9, c9, HBz, HLz, ?_, V9.out, ?_, HWz⟩
                · rw [hbz, SPE.out]; rfl
                · have RZ := Kd.R_step HR25_4.out (w1 := wz) (fun k hk hlt => hoz.block k hlt (fun he => by have h1 := blk_lt HX4.out; (try dsimp only at hk); have z1 := SZ_1.out; have z2 := SZ_2.out; have z3 := SZ_3.out; have z0 : w4.drew.heap.size = w4.heap.size := rfl; omega))
                  have hle : ([] ++ a.f0.f6 ++ [l]).length = a.f0.f6.length + 1 := by simp
                  have hls : [] ++ a.f0.f6 ++ [l] = a.f0.f6 ++ [l] := by simp
                  obtain ⟨_, _, h3⟩ := Kd.R_reads' RZ
                  rw [hle, hls] at h3
                  exact view_C h3 HWz
              exact AllReadyH.nil
            exact AllReadyH.nil
          exact AllReadyH.nil
        exact AllReadyH.nil
      case rest =>
        obtain ⟨A9, c9, ha, hl, hx, h9, hc9, hbel⟩ := hcut
        have HA := Lib.hid ha; have HL := Lib.hid hl; have HX := Lib.hid hx; have H9 := Lib.hid h9; have HC9 := Lib.hid hc9; have HWC := Lib.hid hbel
        have KS9 := Lib.hid (show ∀ W' (h : Below wc.heap.size wc W'), k25.K W' (⟨a.f0.f0, a.f0.f1, a.f0.f2, a.f0.f3, a.f0.f4, a.f0.f5, a.f0.f6 ++ [l]⟩ : S25) [.string a.f0.f0, .bool a.f0.f1, .bool a.f0.f2, .slice A3 a.f0.f3.length c3, .slice A4 a.f0.f4.length c4, .slice A5 a.f0.f5.length c5, .slice A9 (a.f0.f6.length + 1) c9] from fun W' h => by
          have hb2 : Below w.heap.size w W' := below_then HWC.out HWC.out.size h
          have hle : (a.f0.f6 ++ [l]).length = a.f0.f6.length + 1 := by simp
          rw [← hle]
          exact k25_mk W' ⟨a.f0.f0, a.f0.f1, a.f0.f2, a.f0.f3, a.f0.f4, a.f0.f5, a.f0.f6 ++ [l]⟩ G3.out.1 (Kd.C_below G3.out.2 hb2) G4.out.1 (Kd.C_below G4.out.2 hb2) G5.out.1 (Kd.C_below G5.out.2 hb2) (by rw [hle]; exact H9.out) (by rw [hle]; exact Kd.C_below HC9.out h))
        clear ha hl hx h9 hc9 hbel
        obtain ⟨va, hva⟩ : ∃ v, v = linkOf a.f5 a.f4 a.f0.f6 0 := ⟨_, rfl⟩
        obtain ⟨vb, hvb⟩ : ∃ v, v = linkOf a.f5 a.f4 (a.f0.f6 ++ [l]) 0 := ⟨_, rfl⟩
        have HVA := Lib.hid hva; have HVB := Lib.hid hvb
        clear hva hvb
        have d0_0 := cell_blk HA.out E0.out
        have d0_1 := cell_blk HA.out E1.out
        have d0_2 := cell_blk HA.out E2.out
        have d0_3 := cell_blk HA.out E3.out
        have d0_4 := cell_blk HA.out E4.out
        have d0_5 := cell_blk HA.out E5.out
        have d0_6 := cell_blk HA.out E6.out
        have d0_16 := cell_blk HA.out E16.out
        have d0_17 := cell_blk HA.out E17.out
        have d5_0 := cell_blk HX.out (j := 0) rfl
        have d5_1 := cell_blk HX.out (j := 1) rfl
        have d5_2 := cell_blk HX.out (j := 2) rfl
        have d5_3 := cell_blk HX.out (j := 3) rfl
        have d5_4 := cell_blk HX.out (j := 4) rfl
        have d5_5 := cell_blk HX.out (j := 5) rfl
        have d5_6 := cell_blk HX.out (j := 6) rfl
        have hb0 := Below.refl wc.heap.size wc
        go_upto_region 5 with fail
        refine wp_region_held_drew (S := fun w' => w'.cell? ⟨g0, 0, none⟩ = some (.string a.f0.f0) ∧ w'.cell? ⟨g0, 1, none⟩ = some (.bool a.f0.f1) ∧ w'.cell? ⟨g0, 2, none⟩ = some (.bool a.f0.f2) ∧ w'.cell? ⟨g0, 3, none⟩ = some (.slice A3 a.f0.f3.length c3) ∧ w'.cell? ⟨g0, 4, none⟩ = some (.slice A4 a.f0.f4.length c4) ∧ w'.cell? ⟨g0, 5, none⟩ = some (.slice A5 a.f0.f5.length c5) ∧ w'.cell? ⟨g0, 6, none⟩ = some (.slice A6 a.f0.f6.length c6) ∧ w'.cell? ⟨g0, 16, none⟩ = some (.string a.f4) ∧ w'.cell? ⟨g0, 17, none⟩ = some (.string a.f5) ∧ w'.cell? ⟨g5, 0, none⟩ = some (.string a.f0.f0) ∧ w'.cell? ⟨g5, 1, none⟩ = some (.bool a.f0.f1) ∧ w'.cell? ⟨g5, 2, none⟩ = some (.bool a.f0.f2) ∧ w'.cell? ⟨g5, 3, none⟩ = some (.slice A3 a.f0.f3.length c3) ∧ w'.cell? ⟨g5, 4, none⟩ = some (.slice A4 a.f0.f4.length c4) ∧ w'.cell? ⟨g5, 5, none⟩ = some (.slice A5 a.f0.f5.length c5) ∧ w'.cell? ⟨g5, 6, none⟩ = some (.slice A9 (a.f0.f6.length + 1) c9) ∧ Below wc.heap.size wc w') (by kernel_rfl) ?hS19 (fun hHeld => ?_)
        case hS19 => exact ⟨d0_0, d0_1, d0_2, d0_3, d0_4, d0_5, d0_6, d0_16, d0_17, d5_0, d5_1, d5_2, d5_3, d5_4, d5_5, d5_6, below_drew1 hb0⟩
        clear d0_0 d0_1 d0_2 d0_3 d0_4 d0_5 d0_6 d0_16 d0_17 d5_0 d5_1 d5_2 d5_3 d5_4 d5_5 d5_6 hb0
        refine wpAnyH_take (i := 0) (oi := { dst := some 27, op := _, type := _, pos := _, after := _, guard := _ }) (v := ?v20) rfl (by kernel_rfl) (by kernel_rfl) (by kernel_rfl) (fun _ _ _ h => h) (Or.inl ⟨by rfl, ?hy20⟩) (by assumption) ?r20
        case hy20 => (intro w hSw; (try dsimp only at hSw); first | (go_simp; done) | (go_simp; with_reducible rfl))
        try simp only [Act.put, List.setIfInBounds_toArray, List.set_cons_zero, List.set_cons_succ]
        refine wpAnyH_take (i := 1) (oi := { dst := some 28, op := _, type := _, pos := _, after := _, guard := _ }) (v := ?v21) rfl (by kernel_rfl) (by kernel_rfl) (by kernel_rfl) (fun _ _ _ h => h) (Or.inl ⟨by rfl, ?hy21⟩) (by assumption) ?r21
        case hy21 => (intro w hSw; (try dsimp only at hSw); first | (go_simp; done) | (go_simp; with_reducible rfl))
        try simp only [Act.put, List.setIfInBounds_toArray, List.set_cons_zero, List.set_cons_succ]
        refine wpAnyH_take (i := 2) (oi := { dst := some 29, op := _, type := _, pos := _, after := _, guard := _ }) (v := ?v22) rfl (by kernel_rfl) (by kernel_rfl) (by kernel_rfl) (fun _ _ _ h => h) (Or.inl ⟨by rfl, ?hy22⟩) (by assumption) ?r22
        case hy22 => (intro w hSw; (try dsimp only at hSw); first | (go_simp; done) | (go_simp; with_reducible rfl))
        try simp only [Act.put, List.setIfInBounds_toArray, List.set_cons_zero, List.set_cons_succ]
        refine wpAnyH_take (i := 3) (oi := { dst := some 30, op := _, type := _, pos := _, after := _, guard := _ }) (v := ?v23) rfl (by kernel_rfl) (by kernel_rfl) (by kernel_rfl) (fun _ _ _ h => h) (Or.inl ⟨by rfl, ?hy23⟩) (by assumption) ?r23
        case hy23 => (intro w hSw; (try dsimp only at hSw); first | (go_simp; done) | (go_simp; with_reducible rfl))
        try simp only [Act.put, List.setIfInBounds_toArray, List.set_cons_zero, List.set_cons_succ]
        refine wpAnyH_take (i := 4) (oi := { dst := some 31, op := _, type := _, pos := _, after := _, guard := _ }) (v := ?v24) rfl (by kernel_rfl) (by kernel_rfl) (by kernel_rfl) (fun _ _ _ h => h) (Or.inl ⟨by rfl, ?hy24⟩) (by assumption) ?r24
        case hy24 => (intro w hSw; (try dsimp only at hSw); first | (go_simp; done) | (go_simp; with_reducible rfl))
        try simp only [Act.put, List.setIfInBounds_toArray, List.set_cons_zero, List.set_cons_succ]
        refine wpAnyH_take (i := 5) (oi := { dst := some 32, op := _, type := _, pos := _, after := _, guard := _ }) (v := ?v25) rfl (by kernel_rfl) (by kernel_rfl) (by kernel_rfl) (fun _ _ _ h => h) (Or.inl ⟨by rfl, ?hy25⟩) (by assumption) ?r25
        case hy25 => (intro w hSw; (try dsimp only at hSw); first | (go_simp; done) | (go_simp; with_reducible rfl))
        try simp only [Act.put, List.setIfInBounds_toArray, List.set_cons_zero, List.set_cons_succ]
        refine wpAnyH_take (i := 7) (oi := { dst := some 34, op := _, type := _, pos := _, after := _, guard := _ }) (v := ?v26) rfl (by kernel_rfl) (by kernel_rfl) (by kernel_rfl) (fun _ _ _ h => h) (Or.inl ⟨by rfl, ?hy26⟩) (by assumption) ?r26
        case hy26 => (intro w hSw; (try dsimp only at hSw); first | (go_simp; done) | (go_simp; with_reducible rfl))
        try simp only [Act.put, List.setIfInBounds_toArray, List.set_cons_zero, List.set_cons_succ]
        refine wpAnyH_take (i := 8) (oi := { dst := some 35, op := _, type := _, pos := _, after := _, guard := _ }) (v := ?v27) rfl (by kernel_rfl) (by kernel_rfl) (by kernel_rfl) (fun _ _ _ h => h) (Or.inl ⟨by rfl, ?hy27⟩) (by assumption) ?r27
        case hy27 => (intro w hSw; (try dsimp only at hSw); first | (go_simp; done) | (go_simp; with_reducible rfl))
        try simp only [Act.put, List.setIfInBounds_toArray, List.set_cons_zero, List.set_cons_succ]
        refine wpAnyH_take (i := 9) (oi := { dst := some 36, op := _, type := _, pos := _, after := _, guard := _ }) (v := ?v28) rfl (by kernel_rfl) (by kernel_rfl) (by kernel_rfl) (fun _ _ _ h => h) (Or.inl ⟨by rfl, ?hy28⟩) (by assumption) ?r28
        case hy28 => (intro w hSw; (try dsimp only at hSw); first | (go_simp; done) | (go_simp; with_reducible rfl))
        try simp only [Act.put, List.setIfInBounds_toArray, List.set_cons_zero, List.set_cons_succ]
        refine wpAnyH_take (i := 10) (oi := { dst := some 37, op := _, type := _, pos := _, after := _, guard := _ }) (v := ?v29) rfl (by kernel_rfl) (by kernel_rfl) (by kernel_rfl) (fun _ _ _ h => h) (Or.inl ⟨by rfl, ?hy29⟩) (by assumption) ?r29
        case hy29 => (intro w hSw; (try dsimp only at hSw); first | (go_simp; done) | (go_simp; with_reducible rfl))
        try simp only [Act.put, List.setIfInBounds_toArray, List.set_cons_zero, List.set_cons_succ]
        refine wpAnyH_take (i := 11) (oi := { dst := some 38, op := _, type := _, pos := _, after := _, guard := _ }) (v := ?v30) rfl (by kernel_rfl) (by kernel_rfl) (by kernel_rfl) (fun _ _ _ h => h) (Or.inl ⟨by rfl, ?hy30⟩) (by assumption) ?r30
        case hy30 => (intro w hSw; (try dsimp only at hSw); first | (go_simp; done) | (go_simp; with_reducible rfl))
        try simp only [Act.put, List.setIfInBounds_toArray, List.set_cons_zero, List.set_cons_succ]
        refine wpAnyH_ready (rs := [6]) (by kernel_rfl) (by simp) ?_
        refine AllReadyH.cons (o := { dst := some 33, op := _, type := _, pos := _, after := _, guard := _ }) rfl (fun K hK => ?_) AllReadyH.nil
        go_simp
        (go_at_call 6; refine (as_int HVA.out.symm (link_any a.f0 #[.string a.f0.f0, .bool a.f0.f1, .bool a.f0.f2, .slice A3 a.f0.f3.length c3, .slice A4 a.f0.f4.length c4, .slice A5 a.f0.f5.length c5, .slice A6 a.f0.f6.length c6] a.f5 a.f4 _ (KS.out _ (below_then HWC.out HWC.out.size (by go_split_ands; assumption))))).mono ?_; rintro e w14 ⟨rfl, hw14⟩; try go_wp2_with fail)
        refine hK.out _ _ ?hS31 (fun hHeld => ?_)
        case hS31 => (go_split_ands; (repeat' apply And.intro) <;> (first | assumption | exact pw_cell_below (by assumption) (by assumption) | exact below_step (by assumption) (by assumption) | exact below_drew1 (by assumption)))
        clear hK K
        try simp only [Act.put, List.setIfInBounds_toArray, List.set_cons_zero, List.set_cons_succ]
        refine wpAnyH_ready (rs := [12]) (by kernel_rfl) (by simp) ?_
        refine AllReadyH.cons (o := { dst := some 39, op := _, type := _, pos := _, after := _, guard := _ }) rfl (fun K hK => ?_) AllReadyH.nil
        go_simp
        (go_at_call 6; refine (as_int HVB.out.symm (link_any ⟨a.f0.f0, a.f0.f1, a.f0.f2, a.f0.f3, a.f0.f4, a.f0.f5, a.f0.f6 ++ [l]⟩ #[.string a.f0.f0, .bool a.f0.f1, .bool a.f0.f2, .slice A3 a.f0.f3.length c3, .slice A4 a.f0.f4.length c4, .slice A5 a.f0.f5.length c5, .slice A9 (a.f0.f6.length + 1) c9] a.f5 a.f4 _ (KS9.out _ (by go_split_ands; assumption)))).mono ?_; rintro e w15 ⟨rfl, hw15⟩; try go_wp2_with fail)
        refine hK.out _ _ ?hS32 (fun hHeld => ?_)
        case hS32 => (go_split_ands; (repeat' apply And.intro) <;> (first | assumption | exact pw_cell_below (by assumption) (by assumption) | exact below_step (by assumption) (by assumption) | exact below_drew1 (by assumption)))
        clear hK K
        try simp only [Act.put, List.setIfInBounds_toArray, List.set_cons_zero, List.set_cons_succ]
        refine wpAnyH_take (i := 13) (oi := { dst := some 6, op := _, type := _, pos := _, after := _, guard := _ }) (v := ?v33) rfl (by kernel_rfl) (by kernel_rfl) (by kernel_rfl) (fun _ _ _ h => h) (Or.inl ⟨by rfl, ?hy33⟩) (by assumption) ?r33
        case hy33 => (intro w hSw; (try dsimp only at hSw); first | (go_simp; done) | (go_simp; with_reducible rfl))
        try simp only [Act.put, List.setIfInBounds_toArray, List.set_cons_zero, List.set_cons_succ]
        refine wpAnyH_take (i := 14) (oi := { dst := some 7, op := _, type := _, pos := _, after := _, guard := _ }) (v := ?v34) rfl (by kernel_rfl) (by kernel_rfl) (by kernel_rfl) (fun _ _ _ h => h) (Or.inl ⟨by rfl, ?hy34⟩) (by assumption) ?r34
        case hy34 => (intro w hSw; (try dsimp only at hSw); first | (go_simp; done) | (go_simp; with_reducible rfl))
        try simp only [Act.put, List.setIfInBounds_toArray, List.set_cons_zero, List.set_cons_succ]
        refine wpAnyH_done (by kernel_rfl) ?_ _
        obtain ⟨e0, e1, e2, e3, e4, e5, e6, e16, e17, _, _, _, _, _, _, _, hb15⟩ := hHeld
        have HWE := Lib.hid (below_then HWC.out HWC.out.size hb15)
        have HLE := Lib.hid (blk_below HL.out hb15)
        have ME := Lib.hid (HM.out.below HWE.out)
        have f0 := cell_blk HLE.out (j := 0) rfl; have f1 := cell_blk HLE.out (j := 1) rfl; have f2 := cell_blk HLE.out (j := 2) rfl
        clear e0 e1 e2 e3 e4 e5 hb15 hw14 hw15
        have hs := linkOf_snoc a.f5 a.f4 l a.f0.f6 0
        rw [← HVA.out, ← HVB.out] at hs
        have hge := linkOf_ge a.f5 a.f4 a.f0.f6 0
        rw [← HVA.out] at hge
        by_cases h0 : 0 ≤ va
        · rw [if_pos h0] at hs
          have hd0 : decide (0 ≤ va) = true := decide_eq_true h0
          subst hs
          clear hge
          go_wp2_with (go_at_call 7; refine (alive20 _ ME.out).mono ?_; rintro e wz ⟨rfl, hwz⟩)
          go_ret
          exact ⟨rfl, below_step HWE.out hwz⟩
        · rw [if_neg h0] at hs
          obtain rfl : va = -1 := by (rcases hge with h | h); exact h; exact absurd h h0
          clear hge h0
          by_cases he : l.f0.toList = a.f5.toList
          · have he1 : (l.f0.toList == a.f5.toList) = true := beq_iff_eq.2 he
            clear he
            rw [he1, Bool.true_and] at hs
            cases hth : thr l a.f4 with
            | true =>
              rw [hth] at hs
              have HT := Lib.hid hth
              clear hth
              obtain rfl : vb = (a.f0.f6.length : Int) := by simpa using hs
              clear hs
              go_wp2_with (first
                | (go_at_call 8; refine (as_bool HT.out (through_any l _ a.f4 _ (KL.out _ HWE.out))).mono ?_; rintro e w16 ⟨rfl, hw16⟩; have g6 := pw_cell_below hw16 e6; have HWF := Lib.hid (below_step HWE.out hw16); clear hw16 e6)
                | (go_at_call 7; refine (alive20 _ (HM.out.below HWF.out)).mono ?_; rintro e wz ⟨rfl, hwz⟩))
              go_ret
              exact ⟨rfl, below_step HWF.out hwz⟩
            | false =>
              rw [hth] at hs
              have HT := Lib.hid hth
              clear hth
              obtain rfl : vb = -1 := by simpa using hs
              clear hs
              go_wp2_with (first
                | (go_at_call 8; refine (as_bool HT.out (through_any l _ a.f4 _ (KL.out _ HWE.out))).mono ?_; rintro e w16 ⟨rfl, hw16⟩; have g6 := pw_cell_below hw16 e6; have HWF := Lib.hid (below_step HWE.out hw16); clear hw16 e6)
                | (go_at_call 7; refine (alive20 _ (HM.out.below HWF.out)).mono ?_; rintro e wz ⟨rfl, hwz⟩))
              go_ret
              exact ⟨rfl, below_step HWF.out hwz⟩
          · have he1 : (l.f0.toList == a.f5.toList) = false := beq_eq_false_iff_ne.2 he
            clear he
            rw [he1, Bool.false_and] at hs
            obtain rfl : vb = -1 := by simpa using hs
            clear hs
            go_wp2_with (go_at_call 7; refine (alive20 _ ME.out).mono ?_; rintro e wz ⟨rfl, hwz⟩)
            go_ret
            exact ⟨rfl, below_step HWE.out hwz⟩

end Go.Proofs.YtdecagihihohkaaDoor.L20
