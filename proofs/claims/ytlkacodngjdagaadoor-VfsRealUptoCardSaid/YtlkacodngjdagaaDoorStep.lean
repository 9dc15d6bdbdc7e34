/- One step of a walk. -/
import Derived.Test.YtlkacodngjdagaaDoorStepA
namespace Go.Proofs.YtlkacodngjdagaaDoor.Vfs
open Go Go.Maps Go.WideMaps Go.RowKit Go.Proofs.YtlkacodngjdagaaDoorW.PrintWords Go.Proofs.YtlkacodngjdagaaDoor.Kinds Go.Proofs.YtlkacodngjdagaaDoor.Str Go.Proofs.YtlkacodngjdagaaDoor.Ev Go.Proofs.YtlkacodngjdagaaDoor.Frame
set_option linter.unusedVariables false

theorem rooted_at {s : ByteArray} (h : 0 < s.size) : rootedB s = decide ((s[0]'h).toNat = 47) := by
  have hd := get_drop h
  rw [List.drop_zero] at hd
  unfold rootedB
  rw [hd]
  by_cases e : s[0]'h = 47
  · rw [e]; rfl
  · have e2 : ¬ (s[0]'h).toNat = 47 := fun e3 => e (UInt8.toNat_inj.1 e3)
    rw [decide_eq_false e2]
    simpa using e

set_option maxRecDepth 100000 in
set_option maxHeartbeats 8000000 in
theorem step_any (lo hi f q : Nat) (ns : List Nd) (hW : Fit ns) (dir p : ByteArray) (rest : List ByteArray) (hops : Nat) (A : Option Addr) (c : Nat) (w : World) (hm : Mx w) (hF : FSR w lo hi f ns) (hq : w.heap[q]? = some (.cells (walkCells f dir A rest.length c hops) 62 (0, 0)))
    (hqh : hi ≤ q) (hc : rest.length ≤ c) (hR : RestAt w q A rest) (hp : p.size ≤ 4294967281) (hh : hops ≤ 8) (hl : rest.length ≤ 1073741824) :
    Calls Tryd.prog 25 #[.pointer (some ⟨q, 0, none⟩), .string p] w (StepPost w f q (stepB ns dir p rest hops)) := by
  obtain ⟨An, cn, m, hpf, hcn, hcN, hmp⟩ := hF.read
  have HF := Lib.hid hF; have HM := Lib.hid hm; have HQ := Lib.hid hq; have HPF := Lib.hid hpf; have HCN := Lib.hid hcN; have HMP := Lib.hid hmp; have HRR := Lib.hid hR; have HWF := Lib.hid hW; have HCC := Lib.hid hc; have HLL := Lib.hid hl
  obtain ⟨ix, hix⟩ : ∃ ix, ix = idxOf ns p := ⟨_, rfl⟩
  obtain ⟨iv, hiv⟩ : ∃ iv, iv = ix.getD 0 := ⟨_, rfl⟩
  obtain ⟨bv, hbv⟩ : ∃ bv, bv = ix.isSome := ⟨_, rfl⟩
  have HIX := Lib.hid hix; have HIV := Lib.hid hiv; have HBV := Lib.hid hbv
  have look := HMP.out.look p hp
  rw [← hix, ← hiv, ← hbv] at look
  obtain ⟨q0, q1, q2, q3⟩ := walk_at HQ.out
  have f0 := cell_blk HPF.out (j := 0) rfl
  have f1 := cell_blk HPF.out (j := 1) rfl
  have hu := Tryd.underlying34
  have hu2 := Tryd.underlying53
  have hu3 := Tryd.underlying62
  have QH := Lib.hid (blk_lt hq)
  clear hm hF hq hpf hcN hmp hR hW hix hiv hbv hc hl
  cases bv with
  | false =>
    have HS := Lib.hid (show stepB ns dir p rest hops = ((0, false, 63), (dir, rest, hops)) by
      have : idxOf ns p = none := by rw [← HIX.out]; have := HBV.out; cases ix with | none => rfl | some i => cases this
      unfold stepB; rw [this])
    go_enter Tryd.func25, Tryd.ntmps25
    go_wp2
    go_ret3
    rw [HS.out]
    exact ⟨rfl, Only.refl _ _, A, c, HQ.out, HCC.out, HRR.out⟩
  | true =>
    obtain ⟨HSI⟩ : Nonempty (Hid (idxOf ns p = some iv)) := by
      cases ix with
      | none => exact absurd HBV.out (by decide)
      | some i => exact ⟨by show _ = _; rw [HIV.out]; exact HIX.out.symm⟩
    have hil : iv < ns.length := idxOf_lt HSI.out
    obtain ⟨y, ad, B2, d2, rfl, hyd, hyl, y0, y1, y2, y3, m2, q2⟩ := node_at HCN.out iv hil
    have HY := Lib.hid (show ns.getD iv root = y by rw [List.getD_eq_getElem?_getD]; have := congrArg List.head? hyd; rw [List.head?_drop] at this; rw [this]; rfl)
    have HYW := Lib.hid (HWF.out y hyl)
    have OA := Lib.hid (fun o : Obj => (Only.of_below (S := (· = q)) (below_alloc (Below.refl w.heap.size w) o)))
    have hil2 : (iv : Int) < (ns.length : Int) := by omega
    have SZ4 := Lib.hid (show (#[.string ⟨#[]⟩, .int .i64 0, .slice none 0 0, .string ⟨#[]⟩] : Array Value).size = (#[.string y.f0, .int .i64 y.f1, .slice B2 y.f2.length d2, .string y.f3] : Array Value).size from rfl)
    have I34 := Lib.hid (show (Tryd.prog.info? 34).map (·.size) = some (#[.string y.f0, .int .i64 y.f1, .slice B2 y.f2.length d2, .string y.f3] : Array Value).size from (by kernel_rfl : (Tryd.prog.info? 34).map (·.size) = some 4))
    have ONE := Lib.hid (show ∀ v ∈ (#[.string y.f0, .int .i64 y.f1, .slice B2 y.f2.length d2, .string y.f3] : Array Value).toList, v.oneCell' = true from fun v hv => kNd.K_one (k34_mk w y m2 q2) v hv)
    clear hyd hyl m2 q2
    by_cases k1 : y.f1 = 1
    · have HS := Lib.hid (show stepB ns dir p rest hops = ((0, false, 0), (p, rest, hops)) by unfold stepB; rw [HSI.out]; simp only [HY.out]; rw [if_pos k1])
      have K1 := Lib.hid k1
      clear k1
      go_enter Tryd.func25, Tryd.ntmps25
      go_wp2_with (first
        | ((with_reducible refine gate_dst (N := 9) rfl ?_); refine box_event ?hg (N := 9) ?hd (cs := #[.string ⟨#[]⟩, .int .i64 0, .slice none 0 0, .string ⟨#[]⟩]) (t := 34) ?hr ?_; (case hd => rfl); (case hg => rfl); (case hr => first | (go_simp; done) | (go_simp; rfl)); intro g9 hg_ w2 hb_ hw_; have HX2 := Lib.hid hb_; have HG9 := Lib.hid hg_; have HQ2 := Lib.hid (blk_below HQ.out hw_); have HO2 := Lib.hid (Only.of_below (S := (· = q)) hw_); clear hb_ hw_ hg_)
        | (with_reducible refine ev_store_all rfl rfl 34 (.tmp 9) (.tmp 33) rfl _ rfl #[.string y.f0, .int .i64 y.f1, .slice B2 y.f2.length d2, .string y.f3] rfl HX2.out SZ4.out I34.out ONE.out ?_; intro w3 hb_ ho_; have HN3 := Lib.hid hb_; have HQ3 := Lib.hid (ho_.blk HQ2.out (by have := QH.out; have := HG9.out; omega)); have HO3 := Lib.hid (show Only (· = q) w w3 from HO2.out.trans (ho_.mono (S1 := fun k => k = g9 ∨ k = q) (fun i hi => .inl hi)) (fun i hi hlt => by have := HG9.out; omega)); have n1 := cell_blk HN3.out (j := 1) rfl; have n3 := cell_blk HN3.out (j := 3) rfl; (obtain ⟨w0, w1', w2', w3'⟩ := walk_at HQ3.out); clear hb_ ho_ HX2 HQ2 HO2; have k1 := K1.out)
        | ((with_reducible refine gate_store (t := 9) (p := 48) rfl ?_); refine ev_store_cell rfl rfl q 1 (.string p) HQ3.out ?hst ?_; (case hst => (have e2 := blk_frozen HQ3.out 1; first | (go_simp; done) | (go_simp; rfl))); intro w4 hb_ ho_; have HQ4 : Hid (w4.heap[q]? = some (.cells (walkCells f p A rest.length c hops) 62 (0, 0))) := hb_; have HO4 := Lib.hid (HO3.out.trans ho_ (fun i hi _ => hi)); have HN4 := Lib.hid (ho_.blk HN3.out (by have := QH.out; have := HG9.out; omega)); clear hb_ ho_ w0 w1' w2' w3' n1 n3; have n1 := cell_blk HN4.out (j := 1) rfl; have n3 := cell_blk HN4.out (j := 3) rfl; (obtain ⟨w0, w1', w2', w3'⟩ := walk_at HQ4.out)))
      go_ret3
      rw [HS.out]
      exact ⟨rfl, HO4.out, A, c, HQ4.out, HCC.out, HRR.out.step HO4.out⟩
    · by_cases k3 : y.f1 = 3
      · have hpos : 0 < y.f3.size := HYW.out.2.2 k3
        skip
        by_cases h8 : 8 < hops + 1
        · have HS := Lib.hid (show stepB ns dir p rest hops = ((0, false, 64), (dir, rest, hops + 1)) by unfold stepB; rw [HSI.out]; simp only [HY.out]; rw [if_neg k1, if_pos k3, if_pos h8])
          have K1 := Lib.hid k1; have K3 := Lib.hid k3
          clear k1 k3
          go_enter Tryd.func25, Tryd.ntmps25
          go_wp2_with (first
            | ((with_reducible refine gate_dst (N := 9) rfl ?_); refine box_event ?hg (N := 9) ?hd (cs := #[.string ⟨#[]⟩, .int .i64 0, .slice none 0 0, .string ⟨#[]⟩]) (t := 34) ?hr ?_; (case hd => rfl); (case hg => rfl); (case hr => first | (go_simp; done) | (go_simp; rfl)); intro g9 hg_ w2 hb_ hw_; have HX2 := Lib.hid hb_; have HG9 := Lib.hid hg_; have HQ2 := Lib.hid (blk_below HQ.out hw_); have HO2 := Lib.hid (Only.of_below (S := (· = q)) hw_); clear hb_ hw_ hg_)
            | (with_reducible refine ev_store_all rfl rfl 34 (.tmp 9) (.tmp 33) rfl _ rfl #[.string y.f0, .int .i64 y.f1, .slice B2 y.f2.length d2, .string y.f3] rfl HX2.out SZ4.out I34.out ONE.out ?_; intro w3 hb_ ho_; have HN3 := Lib.hid hb_; have HQ3 := Lib.hid (ho_.blk HQ2.out (by have := QH.out; have := HG9.out; omega)); have HO3 := Lib.hid (show Only (· = q) w w3 from HO2.out.trans (ho_.mono (S1 := fun k => k = g9 ∨ k = q) (fun i hi => .inl hi)) (fun i hi hlt => by have := HG9.out; omega)); have n1 := cell_blk HN3.out (j := 1) rfl; have n3 := cell_blk HN3.out (j := 3) rfl; (obtain ⟨w0, w1', w2', w3'⟩ := walk_at HQ3.out); clear hb_ ho_ HX2 HQ2 HO2; have k1 := K1.out; have k3 := K3.out)
            | ((with_reducible refine gate_store (t := 3) (p := 57) rfl ?_); refine ev_store_cell rfl rfl q 3 (.int .i64 ((hops + 1 : Nat) : Int)) HQ3.out ?hst ?_; (case hst => (have e2 := blk_frozen HQ3.out 3; first | (go_simp; done) | (go_simp; rfl))); intro w4 hb_ ho_; have HQ4 : Hid (w4.heap[q]? = some (.cells (walkCells f dir A rest.length c (hops + 1)) 62 (0, 0))) := hb_; have HO4 := Lib.hid (HO3.out.trans ho_ (fun i hi _ => hi)); have HN4 := Lib.hid (ho_.blk HN3.out (by have := QH.out; have := HG9.out; omega)); clear hb_ ho_ w0 w1' w2' w3' n1 n3; have n1 := cell_blk HN4.out (j := 1) rfl; have n3 := cell_blk HN4.out (j := 3) rfl; (obtain ⟨w0, w1', w2', w3'⟩ := walk_at HQ4.out)))
          go_ret3
          rw [HS.out]
          exact ⟨rfl, HO4.out, A, c, HQ4.out, HCC.out, HRR.out.step HO4.out⟩
        · have HPA := Lib.hid (fun (w' : World) (h : Mx w') => parts_any y.f3 w' h (by have := HYW.out.2.1; omega))
          have HPL := Lib.hid (show (partsB y.f3).length ≤ 1048578 by have h1 := List.length_filter_le keepB (splitS y.f3); have h2 := splitS_length y.f3; have h3 := count_small y.f3; have h4 := HYW.out.2.1; unfold partsB; omega)
          have HROOT := Lib.hid (rooted_at hpos)
          by_cases h47 : (y.f3[0]'hpos).toNat = 47
          · have HS := Lib.hid (show stepB ns dir p rest hops = ((0, false, 0), (⟨#[47]⟩, partsB y.f3 ++ rest, hops + 1)) by unfold stepB; rw [HSI.out]; simp only [HY.out]; rw [if_neg k1, if_pos k3, if_neg h8]; unfold rel0; rw [HROOT.out, if_pos (decide_eq_true h47)])
            have K1 := Lib.hid k1; have K3 := Lib.hid k3
            clear k1 k3
            go_enter Tryd.func25, Tryd.ntmps25
            go_upto_region 17 with (first
              | ((with_reducible refine gate_dst (N := 9) rfl ?_); refine box_event ?hg (N := 9) ?hd (cs := #[.string ⟨#[]⟩, .int .i64 0, .slice none 0 0, .string ⟨#[]⟩]) (t := 34) ?hr ?_; (case hd => rfl); (case hg => rfl); (case hr => first | (go_simp; done) | (go_simp; rfl)); intro g9 hg_ w2 hb_ hw_; have HX2 := Lib.hid hb_; have HG9 := Lib.hid hg_; have HQ2 := Lib.hid (blk_below HQ.out hw_); have HO2 := Lib.hid (Only.of_below (S := (· = q)) hw_); clear hb_ hw_ hg_)
              | (with_reducible refine ev_store_all rfl rfl 34 (.tmp 9) (.tmp 33) rfl _ rfl #[.string y.f0, .int .i64 y.f1, .slice B2 y.f2.length d2, .string y.f3] rfl HX2.out SZ4.out I34.out ONE.out ?_; intro w3 hb_ ho_; have HN3 := Lib.hid hb_; have HQ3 := Lib.hid (ho_.blk HQ2.out (by have := QH.out; have := HG9.out; omega)); have HO3 := Lib.hid (show Only (· = q) w w3 from HO2.out.trans (ho_.mono (S1 := fun k => k = g9 ∨ k = q) (fun i hi => .inl hi)) (fun i hi hlt => by have := HG9.out; omega)); have n1 := cell_blk HN3.out (j := 1) rfl; have n3 := cell_blk HN3.out (j := 3) rfl; (obtain ⟨w0, w1', w2', w3'⟩ := walk_at HQ3.out); clear hb_ ho_ HX2 HQ2 HO2; have k1 := K1.out; have k3 := K3.out)
              | ((with_reducible refine gate_store (t := 3) (p := 57) rfl ?_); refine ev_store_cell rfl rfl q 3 (.int .i64 ((hops + 1 : Nat) : Int)) HQ3.out ?hst ?_; (case hst => (have e2 := blk_frozen HQ3.out 3; first | (go_simp; done) | (go_simp; rfl))); intro w4 hb_ ho_; have HQ4 : Hid (w4.heap[q]? = some (.cells (walkCells f dir A rest.length c (hops + 1)) 62 (0, 0))) := hb_; have HO4 := Lib.hid (HO3.out.trans ho_ (fun i hi _ => hi)); have HN4 := Lib.hid (ho_.blk HN3.out (by have := QH.out; have := HG9.out; omega)); clear hb_ ho_ w0 w1' w2' w3' n1 n3; have n1 := cell_blk HN4.out (j := 1) rfl; have n3 := cell_blk HN4.out (j := 3) rfl; (obtain ⟨w0, w1', w2', w3'⟩ := walk_at HQ4.out))
              | ((with_reducible refine gate_store (t := 9) (p := 69) rfl ?_); refine ev_store_cell rfl rfl q 1 (.string ⟨#[47]⟩) HQ4.out ?hst ?_; (case hst => (have e2 := blk_frozen HQ4.out 1; first | (go_simp; done) | (go_simp; rfl))); intro w5 hb_ ho_; have HQ5 : Hid (w5.heap[q]? = some (.cells (walkCells f ⟨#[47]⟩ A rest.length c (hops + 1)) 62 (0, 0))) := hb_; have HO5 := Lib.hid (HO4.out.trans ho_ (fun i hi _ => hi)); have HN5 := Lib.hid (ho_.blk HN4.out (by have := QH.out; have := HG9.out; omega)); clear hb_ ho_ w0 w1' w2' w3' n1 n3; have n1 := cell_blk HN5.out (j := 1) rfl; have n3 := cell_blk HN5.out (j := 3) rfl; (obtain ⟨w0, w1', w2', w3'⟩ := walk_at HQ5.out)))
            have HLT := Lib.hid (show q < w5.heap.size from blk_lt HQ5.out)
            have HOD := Lib.hid (show Only (· = q) w w5.drew from HO5.out.trans (Only.of_below (below_drew1 (Below.refl w5.heap.size w5))) (fun i hi _ => hi))
            have MXD := Lib.hid (HM.out.walk HOD.out HQ.out)
            have HQD : Hid (w5.drew.heap[q]? = _) := HQ5.out
            have HND : Hid (w5.drew.heap[g9]? = _) := HN5.out
            refine wp_region_held_drew (S := (fun w' => w'.cell? ⟨g9, 3, none⟩ = some (.string y.f3))) (by kernel_rfl) ?hS1 (fun hHeld => ?_)
            case hS1 => exact n3
            refine wpAnyH_take (i := 0) (oi := { dst := some 70, op := _, type := _, pos := _, after := _, guard := _ }) (v := ?v2) rfl (by kernel_rfl) (by kernel_rfl) (by kernel_rfl) (fun _ _ _ h => h) (Or.inl ⟨by rfl, ?hy2⟩) (by assumption) ?r2
            case hy2 => (intro w hSw; (try dsimp only at hSw); first | (go_simp; done) | (go_simp; with_reducible rfl))
            try simp only [Act.put, List.setIfInBounds_toArray, List.set_cons_zero, List.set_cons_succ]
            refine wpAnyH_take (i := 1) (oi := { dst := some 71, op := _, type := _, pos := _, after := _, guard := _ }) (v := ?v3) rfl (by kernel_rfl) (by kernel_rfl) (by kernel_rfl) (fun _ _ _ h => h) (Or.inl ⟨by rfl, ?hy3⟩) (by assumption) ?r3
            case hy3 => (intro w hSw; (try dsimp only at hSw); first | (go_simp; done) | (go_simp; with_reducible rfl))
            try simp only [Act.put, List.setIfInBounds_toArray, List.set_cons_zero, List.set_cons_succ]
            refine wpAnyH_take (i := 2) (oi := { dst := some 72, op := _, type := _, pos := _, after := _, guard := _ }) (v := ?v4) rfl (by kernel_rfl) (by kernel_rfl) (by kernel_rfl) (fun _ _ _ h => h) (Or.inl ⟨by rfl, ?hy4⟩) (by assumption) ?r4
            case hy4 => (intro w hSw; (try dsimp only at hSw); first | (go_simp; done) | (go_simp; with_reducible rfl))
            try simp only [Act.put, List.setIfInBounds_toArray, List.set_cons_zero, List.set_cons_succ]
            refine wpAnyH_take (i := 4) (oi := { dst := some 74, op := _, type := _, pos := _, after := _, guard := _ }) (v := ?v5) rfl (by kernel_rfl) (by kernel_rfl) (by kernel_rfl) (fun _ _ _ h => h) (Or.inl ⟨by rfl, ?hy5⟩) (by assumption) ?r5
            case hy5 => (intro w hSw; (try dsimp only at hSw); first | (go_simp; done) | (go_simp; with_reducible rfl))
            try simp only [Act.put, List.setIfInBounds_toArray, List.set_cons_zero, List.set_cons_succ]
            refine wpAnyH_take (i := 5) (oi := { dst := some 75, op := _, type := _, pos := _, after := _, guard := _ }) (v := ?v6) rfl (by kernel_rfl) (by kernel_rfl) (by kernel_rfl) (fun _ _ _ h => h) (Or.inl ⟨by rfl, ?hy6⟩) (by assumption) ?r6
            case hy6 => (intro w hSw; (try dsimp only at hSw); first | (go_simp; done) | (go_simp; with_reducible rfl))
            try simp only [Act.put, List.setIfInBounds_toArray, List.set_cons_zero, List.set_cons_succ]
            refine wpAnyH_take (i := 6) (oi := { dst := some 76, op := _, type := _, pos := _, after := _, guard := _ }) (v := ?v7) rfl (by kernel_rfl) (by kernel_rfl) (by kernel_rfl) (fun _ _ _ h => h) (Or.inl ⟨by rfl, ?hy7⟩) (by assumption) ?r7
            case hy7 => (intro w hSw; (try dsimp only at hSw); first | (go_simp; done) | (go_simp; with_reducible rfl))
            try simp only [Act.put, List.setIfInBounds_toArray, List.set_cons_zero, List.set_cons_succ]
            clear n1 n3 w0 w1' w3'
            refine wpAnyH_ready (rs := [3, 7]) (by kernel_rfl) (by simp) ?_
            refine AllReadyH.cons (o := { dst := some 73, op := _, type := _, pos := _, after := _, guard := _ }) rfl (fun K hK => ?_) ?_
            next =>
              go_simp
              refine (HPA.out _ MXD.out).mono ?_
              rintro e w6 ⟨v, rfl, hRv, hBv⟩
              have HRV := Lib.hid hRv; have HBV6 := Lib.hid hBv; have HQ6 := Lib.hid (blk_below HQD.out hBv); have HN6 := Lib.hid (blk_below HND.out hBv)
              have HO6 := Lib.hid (HOD.out.trans (Only.of_below (S := (· = q)) hBv) (fun i hi _ => hi))
              clear hRv hBv
              try go_wp2_with fail
              refine hK.out _ _ ?hS8 (fun hHeld => ?_)
              case hS8 => exact cell_blk HN6.out (j := 3) rfl
              clear hK K
              try simp only [Act.put, List.setIfInBounds_toArray, List.set_cons_zero, List.set_cons_succ]
              refine wpAnyH_ready (rs := [7]) (by kernel_rfl) (by simp) ?_
              refine AllReadyH.cons (o := { dst := some 77, op := _, type := _, pos := _, after := _, guard := _ }) rfl (fun K hK => ?_) AllReadyH.nil
              clear w2'
              obtain ⟨z0, z1, z2, z3⟩ := walk_at HQ6.out
              go_simp
              clear z0 z1 z2 z3
              refine hK.out _ _ ?hS9 (fun hHeld => ?_)
              case hS9 => exact hHeld
              clear hK K
              try simp only [Act.put, List.setIfInBounds_toArray, List.set_cons_zero, List.set_cons_succ]
              refine wpAnyH_ready (rs := [8]) (by kernel_rfl) (by simp) ?_
              refine AllReadyH.cons (o := { dst := some 78, op := _, type := _, pos := _, after := _, guard := _ }) rfl (fun K hK => ?_) AllReadyH.nil
              refine Kd.R_append_rows_step Kd.string (Rr := Kd.string.K w6) (w0 := w5.drew) w5.drew.heap.size rfl (.tmp 73) (.tmp 77) 43 9 (.string ⟨#[]⟩) 16 rfl Tryd.underlying43 (by kernel_rfl) rfl (show 0 < 1 by decide) (by decide) v (partsB y.f3) rest A rest.length c (fun k => w5.drew.heap.size ≤ k) (fun _ => False) rfl rfl HRV.out (HRR.out w6 HO6.out) (fun _ _ hx => hx) (fun _ hk => hk.elim) (fun k hk => Nat.le_trans HBV6.out.size hk) HBV6.out HBV6.out.size (by have h1 := HPL.out; have h2 := HLL.out; omega) ?_
              intro v1 w7 hR7 hB7 hg7 hat7
              obtain ⟨A7, c7, he7, hc7, _⟩ := Kd.R_reads hR7
              subst he7
              have HR7 := Lib.hid hR7; have HC7 := Lib.hid hc7
              have HNE := Lib.hid (show ∀ g, g < w5.heap.size → ¬ (some g = v.ownBlock) from fun g hg he => by have h1 : w5.heap.size ≤ g := HRV.out.1 g he.symm; omega)
              have HQ7 := Lib.hid ((only_grown hg7).blk HQ6.out (HNE.out _ HLT.out))
              have HN7 := Lib.hid ((only_grown hg7).blk HN6.out (HNE.out _ (blk_lt HND.out)))
              have HO7 := Lib.hid (show Only (· = q) w w7 from HOD.out.trans (Only.of_below (S := (· = q)) hB7) (fun i hi _ => hi))
              clear hR7 hB7 hg7 hat7 hc7
              refine hK.out _ _ (cell_blk HN7.out (j := 3) rfl) (fun hHeld => ?_)
              clear hK K
              try simp only [Act.put, List.setIfInBounds_toArray, List.set_cons_zero, List.set_cons_succ]
              refine wpAnyH_take (i := 9) (oi := { dst := some 79, op := _, type := _, pos := _, after := _, guard := _ }) (v := ?v11) rfl (by kernel_rfl) (by kernel_rfl) (by kernel_rfl) (fun _ _ _ h => h) (Or.inl ⟨by rfl, ?hy11⟩) (by assumption) ?r11
              case hy11 => (intro w hSw; (try dsimp only at hSw); first | (go_simp; done) | (go_simp; with_reducible rfl))
              try simp only [Act.put, List.setIfInBounds_toArray, List.set_cons_zero, List.set_cons_succ]
              refine wpAnyH_take (i := 10) (oi := { dst := some 80, op := _, type := _, pos := _, after := _, guard := _ }) (v := ?v12) rfl (by kernel_rfl) (by kernel_rfl) (by kernel_rfl) (fun _ _ _ h => h) (Or.inl ⟨by rfl, ?hy12⟩) (by assumption) ?r12
              case hy12 => (intro w hSw; (try dsimp only at hSw); first | (go_simp; done) | (go_simp; with_reducible rfl))
              try simp only [Act.put, List.setIfInBounds_toArray, List.set_cons_zero, List.set_cons_succ]
              refine wpAnyH_ready (rs := [11]) (by kernel_rfl) (by simp) ?_
              refine AllReadyH.cons (o := { dst := none, op := _, type := _, pos := _, after := _, guard := _ }) rfl (fun K hK => ?_) AllReadyH.nil
              refine step_store_cell rfl rfl q 2 (.slice A7 (partsB y.f3 ++ rest).length c7) HQ7.out ?hst13 ?_
              case hst13 => (have e2 := blk_frozen HQ7.out 2; (obtain ⟨z0, z1, z2, z3⟩ := walk_at HQ7.out); first | (go_simp; done) | (go_simp; rfl))
              intro w8 hb8 ho8
              have HQ8 : Hid (w8.heap[q]? = some (.cells (walkCells f (⟨#[47]⟩) A7 (partsB y.f3 ++ rest).length c7 (hops + 1)) 62 (0, 0))) := hb8
              have HN8 := Lib.hid (ho8.blk HN7.out (by have := QH.out; have := HG9.out; omega))
              have HO8 := Lib.hid (HO7.out.trans ho8 (fun i hi _ => hi))
              have HR8 := Lib.hid (RestAt.of_R (q := q) (Kd.R_step HR7.out (w1 := w8) (fun k hk hlt => ho8.block k hlt (fun he => by have h1 : w5.heap.size ≤ k := hk; have h2 := HLT.out; omega))) (fun k hk he => by have h1 : w5.heap.size ≤ k := hk; have h2 := HLT.out; omega))
              refine hK.out _ _ (cell_blk HN8.out (j := 3) rfl) (fun hHeld2 => ?_)
              clear hK K
              try simp only [Act.put, List.setIfInBounds_toArray, List.set_cons_zero, List.set_cons_succ]
              refine wpAnyH_done (by kernel_rfl) ?_ _
              clear hHeld hHeld2 hb8 ho8
              go_wp2
              go_ret3
              rw [HS.out]
              exact ⟨rfl, HO8.out, A7, c7, HQ8.out, HC7.out, HR8.out⟩
            next =>
              refine AllReadyH.cons (o := { dst := some 77, op := _, type := _, pos := _, after := _, guard := _ }) rfl (fun K hK => ?_) AllReadyH.nil
              go_simp
              clear w2'
              refine hK.out _ _ ?hS14 (fun hHeld => ?_)
              case hS14 => exact hHeld
              clear hK K
              try simp only [Act.put, List.setIfInBounds_toArray, List.set_cons_zero, List.set_cons_succ]
              refine wpAnyH_ready (rs := [3]) (by kernel_rfl) (by simp) ?_
              refine AllReadyH.cons (o := { dst := some 73, op := _, type := _, pos := _, after := _, guard := _ }) rfl (fun K hK => ?_) AllReadyH.nil
              go_simp
              refine (HPA.out _ MXD.out).mono ?_
              rintro e w6 ⟨v, rfl, hRv, hBv⟩
              have HRV := Lib.hid hRv; have HBV6 := Lib.hid hBv; have HQ6 := Lib.hid (blk_below HQD.out hBv); have HN6 := Lib.hid (blk_below HND.out hBv)
              have HO6 := Lib.hid (HOD.out.trans (Only.of_below (S := (· = q)) hBv) (fun i hi _ => hi))
              clear hRv hBv
              try go_wp2_with fail
              refine hK.out _ _ ?hS15 (fun hHeld => ?_)
              case hS15 => exact cell_blk HN6.out (j := 3) rfl
              clear hK K
              try simp only [Act.put, List.setIfInBounds_toArray, List.set_cons_zero, List.set_cons_succ]
              refine wpAnyH_ready (rs := [8]) (by kernel_rfl) (by simp) ?_
              refine AllReadyH.cons (o := { dst := some 78, op := _, type := _, pos := _, after := _, guard := _ }) rfl (fun K hK => ?_) AllReadyH.nil
              refine Kd.R_append_rows_step Kd.string (Rr := Kd.string.K w6) (w0 := w5.drew) w5.drew.heap.size rfl (.tmp 73) (.tmp 77) 43 9 (.string ⟨#[]⟩) 16 rfl Tryd.underlying43 (by kernel_rfl) rfl (show 0 < 1 by decide) (by decide) v (partsB y.f3) rest A rest.length c (fun k => w5.drew.heap.size ≤ k) (fun _ => False) rfl rfl HRV.out (HRR.out w6 HO6.out) (fun _ _ hx => hx) (fun _ hk => hk.elim) (fun k hk => Nat.le_trans HBV6.out.size hk) HBV6.out HBV6.out.size (by have h1 := HPL.out; have h2 := HLL.out; omega) ?_
              intro v1 w7 hR7 hB7 hg7 hat7
              obtain ⟨A7, c7, he7, hc7, _⟩ := Kd.R_reads hR7
              subst he7
              have HR7 := Lib.hid hR7; have HC7 := Lib.hid hc7
              have HNE := Lib.hid (show ∀ g, g < w5.heap.size → ¬ (some g = v.ownBlock) from fun g hg he => by have h1 : w5.heap.size ≤ g := HRV.out.1 g he.symm; omega)
              have HQ7 := Lib.hid ((only_grown hg7).blk HQ6.out (HNE.out _ HLT.out))
              have HN7 := Lib.hid ((only_grown hg7).blk HN6.out (HNE.out _ (blk_lt HND.out)))
              have HO7 := Lib.hid (show Only (· = q) w w7 from HOD.out.trans (Only.of_below (S := (· = q)) hB7) (fun i hi _ => hi))
              clear hR7 hB7 hg7 hat7 hc7
              refine hK.out _ _ (cell_blk HN7.out (j := 3) rfl) (fun hHeld => ?_)
              clear hK K
              try simp only [Act.put, List.setIfInBounds_toArray, List.set_cons_zero, List.set_cons_succ]
              refine wpAnyH_take (i := 9) (oi := { dst := some 79, op := _, type := _, pos := _, after := _, guard := _ }) (v := ?v17) rfl (by kernel_rfl) (by kernel_rfl) (by kernel_rfl) (fun _ _ _ h => h) (Or.inl ⟨by rfl, ?hy17⟩) (by assumption) ?r17
              case hy17 => (intro w hSw; (try dsimp only at hSw); first | (go_simp; done) | (go_simp; with_reducible rfl))
              try simp only [Act.put, List.setIfInBounds_toArray, List.set_cons_zero, List.set_cons_succ]
              refine wpAnyH_take (i := 10) (oi := { dst := some 80, op := _, type := _, pos := _, after := _, guard := _ }) (v := ?v18) rfl (by kernel_rfl) (by kernel_rfl) (by kernel_rfl) (fun _ _ _ h => h) (Or.inl ⟨by rfl, ?hy18⟩) (by assumption) ?r18
              case hy18 => (intro w hSw; (try dsimp only at hSw); first | (go_simp; done) | (go_simp; with_reducible rfl))
              try simp only [Act.put, List.setIfInBounds_toArray, List.set_cons_zero, List.set_cons_succ]
              refine wpAnyH_ready (rs := [11]) (by kernel_rfl) (by simp) ?_
              refine AllReadyH.cons (o := { dst := none, op := _, type := _, pos := _, after := _, guard := _ }) rfl (fun K hK => ?_) AllReadyH.nil
              refine step_store_cell rfl rfl q 2 (.slice A7 (partsB y.f3 ++ rest).length c7) HQ7.out ?hst19 ?_
              case hst19 => (have e2 := blk_frozen HQ7.out 2; (obtain ⟨z0, z1, z2, z3⟩ := walk_at HQ7.out); first | (go_simp; done) | (go_simp; rfl))
              intro w8 hb8 ho8
              have HQ8 : Hid (w8.heap[q]? = some (.cells (walkCells f (⟨#[47]⟩) A7 (partsB y.f3 ++ rest).length c7 (hops + 1)) 62 (0, 0))) := hb8
              have HN8 := Lib.hid (ho8.blk HN7.out (by have := QH.out; have := HG9.out; omega))
              have HO8 := Lib.hid (HO7.out.trans ho8 (fun i hi _ => hi))
              have HR8 := Lib.hid (RestAt.of_R (q := q) (Kd.R_step HR7.out (w1 := w8) (fun k hk hlt => ho8.block k hlt (fun he => by have h1 : w5.heap.size ≤ k := hk; have h2 := HLT.out; omega))) (fun k hk he => by have h1 : w5.heap.size ≤ k := hk; have h2 := HLT.out; omega))
              refine hK.out _ _ (cell_blk HN8.out (j := 3) rfl) (fun hHeld2 => ?_)
              clear hK K
              try simp only [Act.put, List.setIfInBounds_toArray, List.set_cons_zero, List.set_cons_succ]
              refine wpAnyH_done (by kernel_rfl) ?_ _
              clear hHeld hHeld2 hb8 ho8
              go_wp2
              go_ret3
              rw [HS.out]
              exact ⟨rfl, HO8.out, A7, c7, HQ8.out, HC7.out, HR8.out⟩
          · have HS := Lib.hid (show stepB ns dir p rest hops = ((0, false, 0), (dir, partsB y.f3 ++ rest, hops + 1)) by unfold stepB; rw [HSI.out]; simp only [HY.out]; rw [if_neg k1, if_pos k3, if_neg h8]; unfold rel0; rw [HROOT.out, if_neg (by simpa using h47)])
            have K1 := Lib.hid k1; have K3 := Lib.hid k3
            clear k1 k3
            go_enter Tryd.func25, Tryd.ntmps25
            go_upto_region 17 with (first
              | ((with_reducible refine gate_dst (N := 9) rfl ?_); refine box_event ?hg (N := 9) ?hd (cs := #[.string ⟨#[]⟩, .int .i64 0, .slice none 0 0, .string ⟨#[]⟩]) (t := 34) ?hr ?_; (case hd => rfl); (case hg => rfl); (case hr => first | (go_simp; done) | (go_simp; rfl)); intro g9 hg_ w2 hb_ hw_; have HX2 := Lib.hid hb_; have HG9 := Lib.hid hg_; have HQ2 := Lib.hid (blk_below HQ.out hw_); have HO2 := Lib.hid (Only.of_below (S := (· = q)) hw_); clear hb_ hw_ hg_)
              | (with_reducible refine ev_store_all rfl rfl 34 (.tmp 9) (.tmp 33) rfl _ rfl #[.string y.f0, .int .i64 y.f1, .slice B2 y.f2.length d2, .string y.f3] rfl HX2.out SZ4.out I34.out ONE.out ?_; intro w3 hb_ ho_; have HN3 := Lib.hid hb_; have HQ3 := Lib.hid (ho_.blk HQ2.out (by have := QH.out; have := HG9.out; omega)); have HO3 := Lib.hid (show Only (· = q) w w3 from HO2.out.trans (ho_.mono (S1 := fun k => k = g9 ∨ k = q) (fun i hi => .inl hi)) (fun i hi hlt => by have := HG9.out; omega)); have n1 := cell_blk HN3.out (j := 1) rfl; have n3 := cell_blk HN3.out (j := 3) rfl; (obtain ⟨w0, w1', w2', w3'⟩ := walk_at HQ3.out); clear hb_ ho_ HX2 HQ2 HO2; have k1 := K1.out; have k3 := K3.out)
              | ((with_reducible refine gate_store (t := 3) (p := 57) rfl ?_); refine ev_store_cell rfl rfl q 3 (.int .i64 ((hops + 1 : Nat) : Int)) HQ3.out ?hst ?_; (case hst => (have e2 := blk_frozen HQ3.out 3; first | (go_simp; done) | (go_simp; rfl))); intro w4 hb_ ho_; have HQ4 : Hid (w4.heap[q]? = some (.cells (walkCells f dir A rest.length c (hops + 1)) 62 (0, 0))) := hb_; have HO4 := Lib.hid (HO3.out.trans ho_ (fun i hi _ => hi)); have HN4 := Lib.hid (ho_.blk HN3.out (by have := QH.out; have := HG9.out; omega)); clear hb_ ho_ w0 w1' w2' w3' n1 n3; have n1 := cell_blk HN4.out (j := 1) rfl; have n3 := cell_blk HN4.out (j := 3) rfl; (obtain ⟨w0, w1', w2', w3'⟩ := walk_at HQ4.out)))
            have HLT := Lib.hid (show q < w4.heap.size from blk_lt HQ4.out)
            have HOD := Lib.hid (show Only (· = q) w w4.drew from HO4.out.trans (Only.of_below (below_drew1 (Below.refl w4.heap.size w4))) (fun i hi _ => hi))
            have MXD := Lib.hid (HM.out.walk HOD.out HQ.out)
            have HQD : Hid (w4.drew.heap[q]? = _) := HQ4.out
            have HND : Hid (w4.drew.heap[g9]? = _) := HN4.out
            refine wp_region_held_drew (S := (fun w' => w'.cell? ⟨g9, 3, none⟩ = some (.string y.f3))) (by kernel_rfl) ?hS20 (fun hHeld => ?_)
            case hS20 => exact n3
            refine wpAnyH_take (i := 0) (oi := { dst := some 70, op := _, type := _, pos := _, after := _, guard := _ }) (v := ?v21) rfl (by kernel_rfl) (by kernel_rfl) (by kernel_rfl) (fun _ _ _ h => h) (Or.inl ⟨by rfl, ?hy21⟩) (by assumption) ?r21
            case hy21 => (intro w hSw; (try dsimp only at hSw); first | (go_simp; done) | (go_simp; with_reducible rfl))
            try simp only [Act.put, List.setIfInBounds_toArray, List.set_cons_zero, List.set_cons_succ]
            refine wpAnyH_take (i := 1) (oi := { dst := some 71, op := _, type := _, pos := _, after := _, guard := _ }) (v := ?v22) rfl (by kernel_rfl) (by kernel_rfl) (by kernel_rfl) (fun _ _ _ h => h) (Or.inl ⟨by rfl, ?hy22⟩) (by assumption) ?r22
            case hy22 => (intro w hSw; (try dsimp only at hSw); first | (go_simp; done) | (go_simp; with_reducible rfl))
            try simp only [Act.put, List.setIfInBounds_toArray, List.set_cons_zero, List.set_cons_succ]
            refine wpAnyH_take (i := 2) (oi := { dst := some 72, op := _, type := _, pos := _, after := _, guard := _ }) (v := ?v23) rfl (by kernel_rfl) (by kernel_rfl) (by kernel_rfl) (fun _ _ _ h => h) (Or.inl ⟨by rfl, ?hy23⟩) (by assumption) ?r23
            case hy23 => (intro w hSw; (try dsimp only at hSw); first | (go_simp; done) | (go_simp; with_reducible rfl))
            try simp only [Act.put, List.setIfInBounds_toArray, List.set_cons_zero, List.set_cons_succ]
            refine wpAnyH_take (i := 4) (oi := { dst := some 74, op := _, type := _, pos := _, after := _, guard := _ }) (v := ?v24) rfl (by kernel_rfl) (by kernel_rfl) (by kernel_rfl) (fun _ _ _ h => h) (Or.inl ⟨by rfl, ?hy24⟩) (by assumption) ?r24
            case hy24 => (intro w hSw; (try dsimp only at hSw); first | (go_simp; done) | (go_simp; with_reducible rfl))
            try simp only [Act.put, List.setIfInBounds_toArray, List.set_cons_zero, List.set_cons_succ]
            refine wpAnyH_take (i := 5) (oi := { dst := some 75, op := _, type := _, pos := _, after := _, guard := _ }) (v := ?v25) rfl (by kernel_rfl) (by kernel_rfl) (by kernel_rfl) (fun _ _ _ h => h) (Or.inl ⟨by rfl, ?hy25⟩) (by assumption) ?r25
            case hy25 => (intro w hSw; (try dsimp only at hSw); first | (go_simp; done) | (go_simp; with_reducible rfl))
            try simp only [Act.put, List.setIfInBounds_toArray, List.set_cons_zero, List.set_cons_succ]
            refine wpAnyH_take (i := 6) (oi := { dst := some 76, op := _, type := _, pos := _, after := _, guard := _ }) (v := ?v26) rfl (by kernel_rfl) (by kernel_rfl) (by kernel_rfl) (fun _ _ _ h => h) (Or.inl ⟨by rfl, ?hy26⟩) (by assumption) ?r26
            case hy26 => (intro w hSw; (try dsimp only at hSw); first | (go_simp; done) | (go_simp; with_reducible rfl))
            try simp only [Act.put, List.setIfInBounds_toArray, List.set_cons_zero, List.set_cons_succ]
            clear n1 n3 w0 w1' w3'
            refine wpAnyH_ready (rs := [3, 7]) (by kernel_rfl) (by simp) ?_
            refine AllReadyH.cons (o := { dst := some 73, op := _, type := _, pos := _, after := _, guard := _ }) rfl (fun K hK => ?_) ?_
            next =>
              go_simp
              refine (HPA.out _ MXD.out).mono ?_
              rintro e w6 ⟨v, rfl, hRv, hBv⟩
              have HRV := Lib.hid hRv; have HBV6 := Lib.hid hBv; have HQ6 := Lib.hid (blk_below HQD.out hBv); have HN6 := Lib.hid (blk_below HND.out hBv)
              have HO6 := Lib.hid (HOD.out.trans (Only.of_below (S := (· = q)) hBv) (fun i hi _ => hi))
              clear hRv hBv
              try go_wp2_with fail
              refine hK.out _ _ ?hS27 (fun hHeld => ?_)
              case hS27 => exact cell_blk HN6.out (j := 3) rfl
              clear hK K
              try simp only [Act.put, List.setIfInBounds_toArray, List.set_cons_zero, List.set_cons_succ]
              refine wpAnyH_ready (rs := [7]) (by kernel_rfl) (by simp) ?_
              refine AllReadyH.cons (o := { dst := some 77, op := _, type := _, pos := _, after := _, guard := _ }) rfl (fun K hK => ?_) AllReadyH.nil
              clear w2'
              obtain ⟨z0, z1, z2, z3⟩ := walk_at HQ6.out
              go_simp
              clear z0 z1 z2 z3
              refine hK.out _ _ ?hS28 (fun hHeld => ?_)
              case hS28 => exact hHeld
              clear hK K
              try simp only [Act.put, List.setIfInBounds_toArray, List.set_cons_zero, List.set_cons_succ]
              refine wpAnyH_ready (rs := [8]) (by kernel_rfl) (by simp) ?_
              refine AllReadyH.cons (o := { dst := some 78, op := _, type := _, pos := _, after := _, guard := _ }) rfl (fun K hK => ?_) AllReadyH.nil
              refine Kd.R_append_rows_step Kd.string (Rr := Kd.string.K w6) (w0 := w4.drew) w4.drew.heap.size rfl (.tmp 73) (.tmp 77) 43 9 (.string ⟨#[]⟩) 16 rfl Tryd.underlying43 (by kernel_rfl) rfl (show 0 < 1 by decide) (by decide) v (partsB y.f3) rest A rest.length c (fun k => w4.drew.heap.size ≤ k) (fun _ => False) rfl rfl HRV.out (HRR.out w6 HO6.out) (fun _ _ hx => hx) (fun _ hk => hk.elim) (fun k hk => Nat.le_trans HBV6.out.size hk) HBV6.out HBV6.out.size (by have h1 := HPL.out; have h2 := HLL.out; omega) ?_
              intro v1 w7 hR7 hB7 hg7 hat7
              obtain ⟨A7, c7, he7, hc7, _⟩ := Kd.R_reads hR7
              subst he7
              have HR7 := Lib.hid hR7; have HC7 := Lib.hid hc7
              have HNE := Lib.hid (show ∀ g, g < w4.heap.size → ¬ (some g = v.ownBlock) from fun g hg he => by have h1 : w4.heap.size ≤ g := HRV.out.1 g he.symm; omega)
              have HQ7 := Lib.hid ((only_grown hg7).blk HQ6.out (HNE.out _ HLT.out))
              have HN7 := Lib.hid ((only_grown hg7).blk HN6.out (HNE.out _ (blk_lt HND.out)))
              have HO7 := Lib.hid (show Only (· = q) w w7 from HOD.out.trans (Only.of_below (S := (· = q)) hB7) (fun i hi _ => hi))
              clear hR7 hB7 hg7 hat7 hc7
              refine hK.out _ _ (cell_blk HN7.out (j := 3) rfl) (fun hHeld => ?_)
              clear hK K
              try simp only [Act.put, List.setIfInBounds_toArray, List.set_cons_zero, List.set_cons_succ]
              refine wpAnyH_take (i := 9) (oi := { dst := some 79, op := _, type := _, pos := _, after := _, guard := _ }) (v := ?v30) rfl (by kernel_rfl) (by kernel_rfl) (by kernel_rfl) (fun _ _ _ h => h) (Or.inl ⟨by rfl, ?hy30⟩) (by assumption) ?r30
              case hy30 => (intro w hSw; (try dsimp only at hSw); first | (go_simp; done) | (go_simp; with_reducible rfl))
              try simp only [Act.put, List.setIfInBounds_toArray, List.set_cons_zero, List.set_cons_succ]
              refine wpAnyH_take (i := 10) (oi := { dst := some 80, op := _, type := _, pos := _, after := _, guard := _ }) (v := ?v31) rfl (by kernel_rfl) (by kernel_rfl) (by kernel_rfl) (fun _ _ _ h => h) (Or.inl ⟨by rfl, ?hy31⟩) (by assumption) ?r31
              case hy31 => (intro w hSw; (try dsimp only at hSw); first | (go_simp; done) | (go_simp; with_reducible rfl))
              try simp only [Act.put, List.setIfInBounds_toArray, List.set_cons_zero, List.set_cons_succ]
              refine wpAnyH_ready (rs := [11]) (by kernel_rfl) (by simp) ?_
              refine AllReadyH.cons (o := { dst := none, op := _, type := _, pos := _, after := _, guard := _ }) rfl (fun K hK => ?_) AllReadyH.nil
              refine step_store_cell rfl rfl q 2 (.slice A7 (partsB y.f3 ++ rest).length c7) HQ7.out ?hst32 ?_
              case hst32 => (have e2 := blk_frozen HQ7.out 2; (obtain ⟨z0, z1, z2, z3⟩ := walk_at HQ7.out); first | (go_simp; done) | (go_simp; rfl))
              intro w8 hb8 ho8
              have HQ8 : Hid (w8.heap[q]? = some (.cells (walkCells f (dir) A7 (partsB y.f3 ++ rest).length c7 (hops + 1)) 62 (0, 0))) := hb8
              have HN8 := Lib.hid (ho8.blk HN7.out (by have := QH.out; have := HG9.out; omega))
              have HO8 := Lib.hid (HO7.out.trans ho8 (fun i hi _ => hi))
              have HR8 := Lib.hid (RestAt.of_R (q := q) (Kd.R_step HR7.out (w1 := w8) (fun k hk hlt => ho8.block k hlt (fun he => by have h1 : w4.heap.size ≤ k := hk; have h2 := HLT.out; omega))) (fun k hk he => by have h1 : w4.heap.size ≤ k := hk; have h2 := HLT.out; omega))
              refine hK.out _ _ (cell_blk HN8.out (j := 3) rfl) (fun hHeld2 => ?_)
              clear hK K
              try simp only [Act.put, List.setIfInBounds_toArray, List.set_cons_zero, List.set_cons_succ]
              refine wpAnyH_done (by kernel_rfl) ?_ _
              clear hHeld hHeld2 hb8 ho8
              go_wp2
              go_ret3
              rw [HS.out]
              exact ⟨rfl, HO8.out, A7, c7, HQ8.out, HC7.out, HR8.out⟩
            next =>
              refine AllReadyH.cons (o := { dst := some 77, op := _, type := _, pos := _, after := _, guard := _ }) rfl (fun K hK => ?_) AllReadyH.nil
              go_simp
              clear w2'
              refine hK.out _ _ ?hS33 (fun hHeld => ?_)
              case hS33 => exact hHeld
              clear hK K
              try simp only [Act.put, List.setIfInBounds_toArray, List.set_cons_zero, List.set_cons_succ]
              refine wpAnyH_ready (rs := [3]) (by kernel_rfl) (by simp) ?_
              refine AllReadyH.cons (o := { dst := some 73, op := _, type := _, pos := _, after := _, guard := _ }) rfl (fun K hK => ?_) AllReadyH.nil
              go_simp
              refine (HPA.out _ MXD.out).mono ?_
              rintro e w6 ⟨v, rfl, hRv, hBv⟩
              have HRV := Lib.hid hRv; have HBV6 := Lib.hid hBv; have HQ6 := Lib.hid (blk_below HQD.out hBv); have HN6 := Lib.hid (blk_below HND.out hBv)
              have HO6 := Lib.hid (HOD.out.trans (Only.of_below (S := (· = q)) hBv) (fun i hi _ => hi))
              clear hRv hBv
              try go_wp2_with fail
              refine hK.out _ _ ?hS34 (fun hHeld => ?_)
              case hS34 => exact cell_blk HN6.out (j := 3) rfl
              clear hK K
              try simp only [Act.put, List.setIfInBounds_toArray, List.set_cons_zero, List.set_cons_succ]
              refine wpAnyH_ready (rs := [8]) (by kernel_rfl) (by simp) ?_
              refine AllReadyH.cons (o := { dst := some 78, op := _, type := _, pos := _, after := _, guard := _ }) rfl (fun K hK => ?_) AllReadyH.nil
              refine Kd.R_append_rows_step Kd.string (Rr := Kd.string.K w6) (w0 := w4.drew) w4.drew.heap.size rfl (.tmp 73) (.tmp 77) 43 9 (.string ⟨#[]⟩) 16 rfl Tryd.underlying43 (by kernel_rfl) rfl (show 0 < 1 by decide) (by decide) v (partsB y.f3) rest A rest.length c (fun k => w4.drew.heap.size ≤ k) (fun _ => False) rfl rfl HRV.out (HRR.out w6 HO6.out) (fun _ _ hx => hx) (fun _ hk => hk.elim) (fun k hk => Nat.le_trans HBV6.out.size hk) HBV6.out HBV6.out.size (by have h1 := HPL.out; have h2 := HLL.out; omega) ?_
              intro v1 w7 hR7 hB7 hg7 hat7
              obtain ⟨A7, c7, he7, hc7, _⟩ := Kd.R_reads hR7
              subst he7
              have HR7 := Lib.hid hR7; have HC7 := Lib.hid hc7
              have HNE := Lib.hid (show ∀ g, g < w4.heap.size → ¬ (some g = v.ownBlock) from fun g hg he => by have h1 : w4.heap.size ≤ g := HRV.out.1 g he.symm; omega)
              have HQ7 := Lib.hid ((only_grown hg7).blk HQ6.out (HNE.out _ HLT.out))
              have HN7 := Lib.hid ((only_grown hg7).blk HN6.out (HNE.out _ (blk_lt HND.out)))
              have HO7 := Lib.hid (show Only (· = q) w w7 from HOD.out.trans (Only.of_below (S := (· = q)) hB7) (fun i hi _ => hi))
              clear hR7 hB7 hg7 hat7 hc7
              refine hK.out _ _ (cell_blk HN7.out (j := 3) rfl) (fun hHeld => ?_)
              clear hK K
              try simp only [Act.put, List.setIfInBounds_toArray, List.set_cons_zero, List.set_cons_succ]
              refine wpAnyH_take (i := 9) (oi := { dst := some 79, op := _, type := _, pos := _, after := _, guard := _ }) (v := ?v36) rfl (by kernel_rfl) (by kernel_rfl) (by kernel_rfl) (fun _ _ _ h => h) (Or.inl ⟨by rfl, ?hy36⟩) (by assumption) ?r36
              case hy36 => (intro w hSw; (try dsimp only at hSw); first | (go_simp; done) | (go_simp; with_reducible rfl))
              try simp only [Act.put, List.setIfInBounds_toArray, List.set_cons_zero, List.set_cons_succ]
              refine wpAnyH_take (i := 10) (oi := { dst := some 80, op := _, type := _, pos := _, after := _, guard := _ }) (v := ?v37) rfl (by kernel_rfl) (by kernel_rfl) (by kernel_rfl) (fun _ _ _ h => h) (Or.inl ⟨by rfl, ?hy37⟩) (by assumption) ?r37
              case hy37 => (intro w hSw; (try dsimp only at hSw); first | (go_simp; done) | (go_simp; with_reducible rfl))
              try simp only [Act.put, List.setIfInBounds_toArray, List.set_cons_zero, List.set_cons_succ]
              refine wpAnyH_ready (rs := [11]) (by kernel_rfl) (by simp) ?_
              refine AllReadyH.cons (o := { dst := none, op := _, type := _, pos := _, after := _, guard := _ }) rfl (fun K hK => ?_) AllReadyH.nil
              refine step_store_cell rfl rfl q 2 (.slice A7 (partsB y.f3 ++ rest).length c7) HQ7.out ?hst38 ?_
              case hst38 => (have e2 := blk_frozen HQ7.out 2; (obtain ⟨z0, z1, z2, z3⟩ := walk_at HQ7.out); first | (go_simp; done) | (go_simp; rfl))
              intro w8 hb8 ho8
              have HQ8 : Hid (w8.heap[q]? = some (.cells (walkCells f (dir) A7 (partsB y.f3 ++ rest).length c7 (hops + 1)) 62 (0, 0))) := hb8
              have HN8 := Lib.hid (ho8.blk HN7.out (by have := QH.out; have := HG9.out; omega))
              have HO8 := Lib.hid (HO7.out.trans ho8 (fun i hi _ => hi))
              have HR8 := Lib.hid (RestAt.of_R (q := q) (Kd.R_step HR7.out (w1 := w8) (fun k hk hlt => ho8.block k hlt (fun he => by have h1 : w4.heap.size ≤ k := hk; have h2 := HLT.out; omega))) (fun k hk he => by have h1 : w4.heap.size ≤ k := hk; have h2 := HLT.out; omega))
              refine hK.out _ _ (cell_blk HN8.out (j := 3) rfl) (fun hHeld2 => ?_)
              clear hK K
              try simp only [Act.put, List.setIfInBounds_toArray, List.set_cons_zero, List.set_cons_succ]
              refine wpAnyH_done (by kernel_rfl) ?_ _
              clear hHeld hHeld2 hb8 ho8
              go_wp2
              go_ret3
              rw [HS.out]
              exact ⟨rfl, HO8.out, A7, c7, HQ8.out, HC7.out, HR8.out⟩
      · by_cases hr0 : 0 < rest.length
        · have HS := Lib.hid (show stepB ns dir p rest hops = ((0, false, 65), (dir, rest, hops)) by unfold stepB; rw [HSI.out]; simp only [HY.out]; rw [if_neg k1, if_neg k3, if_pos hr0])
          skip
          go_enter Tryd.func25, Tryd.ntmps25
          go_wp2_with (first
            | ((with_reducible refine gate_dst (N := 9) rfl ?_); refine box_event ?hg (N := 9) ?hd (cs := #[.string ⟨#[]⟩, .int .i64 0, .slice none 0 0, .string ⟨#[]⟩]) (t := 34) ?hr ?_; (case hd => rfl); (case hg => rfl); (case hr => first | (go_simp; done) | (go_simp; rfl)); intro g9 hg_ w2 hb_ hw_; have HX2 := Lib.hid hb_; have HG9 := Lib.hid hg_; have HQ2 := Lib.hid (blk_below HQ.out hw_); have HO2 := Lib.hid (Only.of_below (S := (· = q)) hw_); clear hb_ hw_ hg_)
            | (with_reducible refine ev_store_all rfl rfl 34 (.tmp 9) (.tmp 33) rfl _ rfl #[.string y.f0, .int .i64 y.f1, .slice B2 y.f2.length d2, .string y.f3] rfl HX2.out SZ4.out I34.out ONE.out ?_; intro w3 hb_ ho_; have HN3 := Lib.hid hb_; have HQ3 := Lib.hid (ho_.blk HQ2.out (by have := QH.out; have := HG9.out; omega)); have HO3 := Lib.hid (show Only (· = q) w w3 from HO2.out.trans (ho_.mono (S1 := fun k => k = g9 ∨ k = q) (fun i hi => .inl hi)) (fun i hi hlt => by have := HG9.out; omega)); have n1 := cell_blk HN3.out (j := 1) rfl; have n3 := cell_blk HN3.out (j := 3) rfl; (obtain ⟨w0, w1', w2', w3'⟩ := walk_at HQ3.out); clear hb_ ho_ HX2 HQ2 HO2))
          go_ret3
          rw [HS.out]
          exact ⟨rfl, HO3.out, A, c, HQ3.out, HCC.out, HRR.out.step HO3.out⟩
        · have HS := Lib.hid (show stepB ns dir p rest hops = ((iv, true, 0), (dir, rest, hops)) by unfold stepB; rw [HSI.out]; simp only [HY.out]; rw [if_neg k1, if_neg k3, if_neg hr0])
          skip
          go_enter Tryd.func25, Tryd.ntmps25
          go_wp2_with (first
            | ((with_reducible refine gate_dst (N := 9) rfl ?_); refine box_event ?hg (N := 9) ?hd (cs := #[.string ⟨#[]⟩, .int .i64 0, .slice none 0 0, .string ⟨#[]⟩]) (t := 34) ?hr ?_; (case hd => rfl); (case hg => rfl); (case hr => first | (go_simp; done) | (go_simp; rfl)); intro g9 hg_ w2 hb_ hw_; have HX2 := Lib.hid hb_; have HG9 := Lib.hid hg_; have HQ2 := Lib.hid (blk_below HQ.out hw_); have HO2 := Lib.hid (Only.of_below (S := (· = q)) hw_); clear hb_ hw_ hg_)
            | (with_reducible refine ev_store_all rfl rfl 34 (.tmp 9) (.tmp 33) rfl _ rfl #[.string y.f0, .int .i64 y.f1, .slice B2 y.f2.length d2, .string y.f3] rfl HX2.out SZ4.out I34.out ONE.out ?_; intro w3 hb_ ho_; have HN3 := Lib.hid hb_; have HQ3 := Lib.hid (ho_.blk HQ2.out (by have := QH.out; have := HG9.out; omega)); have HO3 := Lib.hid (show Only (· = q) w w3 from HO2.out.trans (ho_.mono (S1 := fun k => k = g9 ∨ k = q) (fun i hi => .inl hi)) (fun i hi hlt => by have := HG9.out; omega)); have n1 := cell_blk HN3.out (j := 1) rfl; have n3 := cell_blk HN3.out (j := 3) rfl; (obtain ⟨w0, w1', w2', w3'⟩ := walk_at HQ3.out); clear hb_ ho_ HX2 HQ2 HO2))
          go_ret3
          rw [HS.out]
          exact ⟨rfl, HO3.out, A, c, HQ3.out, HCC.out, HRR.out.step HO3.out⟩

end Go.Proofs.YtlkacodngjdagaaDoor.Vfs
