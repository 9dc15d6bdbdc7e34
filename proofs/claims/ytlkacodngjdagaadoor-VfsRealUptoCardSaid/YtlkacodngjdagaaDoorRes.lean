/- Resolve: where a path leads. -/
import Derived.Test.YtlkacodngjdagaaDoorResA
namespace Go.Proofs.YtlkacodngjdagaaDoor.Vfs
open Go Go.Maps Go.WideMaps Go.RowKit Go.Proofs.YtlkacodngjdagaaDoorW.PrintWords Go.Proofs.YtlkacodngjdagaaDoor.Kinds Go.Proofs.YtlkacodngjdagaaDoor.Str Go.Proofs.YtlkacodngjdagaaDoor.Ev Go.Proofs.YtlkacodngjdagaaDoor.Frame
set_option linter.unusedVariables false

theorem ret_three {a a2 c c2 : Int} {b b2 : ByteArray} (h1 : a = a2) (h2 : b = b2) (h3 : c = c2) : Ending.returned (.tuple #[.int .i64 a, .string b, .int .i64 c]) = .returned (.tuple #[.int .i64 a2, .string b2, .int .i64 c2]) := by rw [h1, h2, h3]

set_option maxRecDepth 100000 in
set_option maxHeartbeats 8000000 in
theorem resolve_any (lo hi f : Nat) (ns : List Nd) (hW : Fit ns) (p : ByteArray) (w : World) (hm : Mx w) (hF : FSR w lo hi f ns) (hhi : hi ≤ w.heap.size) (hp : p.size ≤ 1048576) :
    Calls Tryd.prog 10 #[.pointer (some ⟨f, 0, none⟩), .string p] w fun e w' => e = .returned (.tuple #[.int .i64 (resolveB ns p).1, .string (resolveB ns p).2.1, .int .i64 (resolveB ns p).2.2]) ∧ Below w.heap.size w w' := by
  have HF := Lib.hid hF; have HM := Lib.hid hm; have HWF := Lib.hid hW; have HHI := Lib.hid hhi; have HP := Lib.hid hp
  have HCL := Lib.hid (clean_any p w hm (by omega))
  obtain ⟨cl, hcl⟩ : ∃ cl, cl = cleanB p := ⟨_, rfl⟩
  rw [← hcl] at HCL
  have HR := Lib.hid (show resolveB ns p = if cl.2 = 0 then resB ns ⟨#[47]⟩ (partsB p) 0 else (0, ⟨#[]⟩, cl.2) by rw [hcl]; rfl)
  obtain ⟨cs, ce⟩ := cl
  have hu := Tryd.underlying62
  have hu2 := Tryd.underlying53
  have hu4 := Tryd.underlying34
  clear hcl hm hF hW hhi
  by_cases h0 : ce = 0
  · have HR2 := Lib.hid (show resolveB ns p = resB ns ⟨#[47]⟩ (partsB p) 0 by rw [HR.out, if_pos h0])
    have HPA := Lib.hid (fun (w' : World) (h : Below w.heap.size w w') => parts_any p w' (HM.out.below h) (by omega))
    have HPL := Lib.hid (parts_length p)
    have HPS := Lib.hid (parts_size p)
    subst h0
    obtain ⟨ps, hps⟩ : ∃ ps, ps = partsB p := ⟨_, rfl⟩
    rw [← hps] at HPA HPL HPS HR2
    clear hps hp
    go_enter Tryd.func10, Tryd.ntmps10
    go_wp2_with (first
      | (go_at_call 23; refine HCL.out.mono ?_; rintro e w1 ⟨rfl, hw1⟩; have HB1 := Lib.hid hw1; clear hw1)
      | (go_at_call 24; refine (HPA.out _ HB1.out).mono ?_; rintro e w2 ⟨v2, rfl, hR2, hB2⟩; (obtain ⟨A2, c2, rfl, hc2, _⟩ := Kd.R_reads hR2); have HRP := Lib.hid hR2; have HC2 := Lib.hid hc2; have HB2 := Lib.hid (below_then HB1.out HB1.out.size hB2); clear hR2 hB2 hc2)
      | ((with_reducible refine gate_dst (N := 26) rfl ?_); refine box_event ?hg (N := 26) ?hd (cs := walkCells f ⟨#[47]⟩ A2 ps.length c2 0) (t := 62) ?hr ?_; (case hd => rfl); (case hg => rfl); (case hr => first | (go_simp; done) | (go_simp; rfl)); intro q hg_ w3 hb_ hw_; have HQ3 := Lib.hid hb_; have HG3 := Lib.hid hg_; have HB3 := Lib.hid hw_; clear hb_ hw_ hg_))
    have HQW := Lib.hid (show w.heap.size ≤ q by have := HB2.out.size; have := HG3.out; omega)
    have HQH := Lib.hid (show hi ≤ q by have := HQW.out; have := HHI.out; omega)
    have HRA := Lib.hid (show RestAt w3 q A2 ps from fun w' hk => by
      have hlt : ∀ k, k < w2.heap.size → w'.heap[k]? = w2.heap[k]? := fun k hkl => (hk.block k (Nat.lt_of_lt_of_le hkl HB3.out.size) (by have := HG3.out; omega)).trans (HB3.out.block k hkl)
      exact (Kd.R_reads' (Kd.R_step HRP.out (w1 := w') (fun k _ hl => hlt k hl))).2.2)
    have HB3w := Lib.hid (show Below w.heap.size w w3 from below_then HB2.out HB2.out.size HB3.out)
    clear HPA HCL HB1 HRP
    go_loopw [10] (fun s10 wr => ∃ (dir : ByteArray) (rest : List ByteArray) (hops : Nat) (A : Option Addr) (c : Nat), Hid (Only (· = q) w3 wr) ∧ Hid (wr.heap[q]? = some (.cells (walkCells f dir A rest.length c hops) 62 (0, 0))) ∧ Hid (RestAt wr q A rest) ∧ Hid (rest.length ≤ c) ∧ Hid (dir.size ≤ 1048577) ∧ Hid (∀ x ∈ rest, x.size ≤ 1048577) ∧ Hid (hops ≤ 8) ∧ Hid (rest.length ≤ (hops + 1) * 1048579) ∧ Hid (resolveB ns p = resB ns dir rest hops)) (fun _ wr => msr q wr)
    case atStart => exact ⟨_, ps, 0, A2, c2, Only.refl _ _, HQ3.out, HRA.out, HC2.out, (by decide : (1 : Nat) ≤ 1048577), fun x hx => by have := HPS.out x hx; have := HP.out; omega, Nat.zero_le _, by have := HPL.out; have := HP.out; show _ ≤ _; omega, HR2.out⟩
    case round =>
      obtain ⟨dir, rest, hops, A, c, HO, HQ, HRR, HC, HD, HX, HH, HL, HE⟩ := hrel
      have HMS := Lib.hid (msr_at HQ.out)
      have HFW := Lib.hid (show FSR wr lo hi f ns from (HF.out.below HB3w.out).only HO.out (fun k h1 h2 he => by have := HQH.out; omega))
      have HBW := Lib.hid (show Below w.heap.size w wr from below_only HB3w.out HO.out (fun i hi' => by rw [hi']; exact HQW.out))
      obtain ⟨q0, q1, q2, q3⟩ := walk_at HQ.out
      cases rest with
      | nil =>
        have HE2 := Lib.hid (show resolveB ns p = ((idxOf ns dir).getD 0, dir, 0) by rw [HE.out, resB_nil])
        obtain ⟨An, cn, m, hpf, hcn, hcN, hmp⟩ := HFW.out.read
        have HPF := Lib.hid hpf; have HMP := Lib.hid hmp
        obtain ⟨iv, hiv⟩ : ∃ iv, iv = (idxOf ns dir).getD 0 := ⟨_, rfl⟩
        rw [← hiv] at HE2
        have HIV := Lib.hid hiv
        clear hpf hcn hcN hmp hiv
        go_upto_region 15 with fail
        have look : (Instr.lookup 51 (.map (some m)) (.string dir) false).run Tryd.prog wr.drew = .ok (.int .i64 (iv : Nat)) wr.drew := by have h := (HMP.out.same (w1 := wr.drew) rfl).look1 dir (by have := HD.out; omega); rw [← HIV.out] at h; exact h
        have f1 := cell_blk HPF.out (j := 1) rfl
        refine wp_region_held_drew (S := (fun w' => w'.cell? ⟨f, 1, none⟩ = some (.map (some m)) ∧ w'.cell? ⟨q, 1, none⟩ = some (.string dir) ∧ (Instr.lookup 51 (.map (some m)) (.string dir) false).run Tryd.prog w' = .ok (.int .i64 (iv : Nat)) w')) (by kernel_rfl) ?hS1 (fun hHeld => ?_)
        case hS1 => exact ⟨f1, q1, look⟩
        clear f1 look q0 q1 q2 q3
        refine wpAnyH_take (i := 0) (oi := { dst := some 82, op := _, type := _, pos := _, after := _, guard := _ }) (v := ?v2) rfl (by kernel_rfl) (by kernel_rfl) (by kernel_rfl) (fun _ _ _ h => h) (Or.inl ⟨by rfl, ?hy2⟩) (by assumption) ?r2
        case hy2 => (intro w hSw; (try dsimp only at hSw); first | (go_simp; done) | (go_simp; with_reducible rfl))
        try simp only [Act.put, List.setIfInBounds_toArray, List.set_cons_zero, List.set_cons_succ]
        refine wpAnyH_take (i := 1) (oi := { dst := some 83, op := _, type := _, pos := _, after := _, guard := _ }) (v := ?v3) rfl (by kernel_rfl) (by kernel_rfl) (by kernel_rfl) (fun _ _ _ h => h) (Or.inl ⟨by rfl, ?hy3⟩) (by assumption) ?r3
        case hy3 => (intro w hSw; (try dsimp only at hSw); first | (go_simp; done) | (go_simp; with_reducible rfl))
        try simp only [Act.put, List.setIfInBounds_toArray, List.set_cons_zero, List.set_cons_succ]
        refine wpAnyH_take (i := 2) (oi := { dst := some 84, op := _, type := _, pos := _, after := _, guard := _ }) (v := ?v4) rfl (by kernel_rfl) (by kernel_rfl) (by kernel_rfl) (fun _ _ _ h => h) (Or.inl ⟨by rfl, ?hy4⟩) (by assumption) ?r4
        case hy4 => (intro w hSw; (try dsimp only at hSw); first | (go_simp; done) | (go_simp; with_reducible rfl))
        try simp only [Act.put, List.setIfInBounds_toArray, List.set_cons_zero, List.set_cons_succ]
        refine wpAnyH_take (i := 3) (oi := { dst := some 85, op := _, type := _, pos := _, after := _, guard := _ }) (v := ?v5) rfl (by kernel_rfl) (by kernel_rfl) (by kernel_rfl) (fun _ _ _ h => h) (Or.inl ⟨by rfl, ?hy5⟩) (by assumption) ?r5
        case hy5 => (intro w hSw; (try dsimp only at hSw); first | (go_simp; done) | (go_simp; with_reducible rfl))
        try simp only [Act.put, List.setIfInBounds_toArray, List.set_cons_zero, List.set_cons_succ]
        refine wpAnyH_take (i := 4) (oi := { dst := some 86, op := _, type := _, pos := _, after := _, guard := _ }) (v := ?v6) rfl (by kernel_rfl) (by kernel_rfl) (by kernel_rfl) (fun _ _ _ h => h) (Or.inl ⟨by rfl, ?hy6⟩) (by assumption) ?r6
        case hy6 => (intro w hSw; (try dsimp only at hSw); first | (go_simp; done) | (go_simp; with_reducible rfl))
        try simp only [Act.put, List.setIfInBounds_toArray, List.set_cons_zero, List.set_cons_succ]
        refine wpAnyH_take (i := 5) (oi := { dst := some 87, op := _, type := _, pos := _, after := _, guard := _ }) (v := ?v7) rfl (by kernel_rfl) (by kernel_rfl) (by kernel_rfl) (fun _ _ _ h => h) (Or.inl ⟨by rfl, ?hy7⟩) (by assumption) ?r7
        case hy7 => (intro w hSw; (try dsimp only at hSw); first | (go_simp; done) | (go_simp; with_reducible rfl))
        try simp only [Act.put, List.setIfInBounds_toArray, List.set_cons_zero, List.set_cons_succ]
        refine wpAnyH_take (i := 6) (oi := { dst := some 88, op := _, type := _, pos := _, after := _, guard := _ }) (v := ?v8) rfl (by kernel_rfl) (by kernel_rfl) (by kernel_rfl) (fun _ _ _ h => h) (Or.inl ⟨by rfl, ?hy8⟩) (by assumption) ?r8
        case hy8 => (intro w hSw; (try dsimp only at hSw); first | (go_simp; done) | (go_simp; with_reducible rfl))
        try simp only [Act.put, List.setIfInBounds_toArray, List.set_cons_zero, List.set_cons_succ]
        refine wpAnyH_take (i := 7) (oi := { dst := some 89, op := _, type := _, pos := _, after := _, guard := _ }) (v := ?v9) rfl (by kernel_rfl) (by kernel_rfl) (by kernel_rfl) (fun _ _ _ h => h) (Or.inl ⟨by rfl, ?hy9⟩) (by assumption) ?r9
        case hy9 => (intro w hSw; (try dsimp only at hSw); first | (go_simp; done) | (go_simp; with_reducible rfl))
        try simp only [Act.put, List.setIfInBounds_toArray, List.set_cons_zero, List.set_cons_succ]
        refine wpAnyH_take (i := 8) (oi := { dst := some 90, op := _, type := _, pos := _, after := _, guard := _ }) (v := ?v10) rfl (by kernel_rfl) (by kernel_rfl) (by kernel_rfl) (fun _ _ _ h => h) (Or.inl ⟨by rfl, ?hy10⟩) (by assumption) ?r10
        case hy10 => (intro w hSw; (try dsimp only at hSw); first | (go_simp; done) | (go_simp; with_reducible rfl))
        try simp only [Act.put, List.setIfInBounds_toArray, List.set_cons_zero, List.set_cons_succ]
        refine wpAnyH_take (i := 9) (oi := { dst := some 91, op := _, type := _, pos := _, after := _, guard := _ }) (v := ?v11) rfl (by kernel_rfl) (by kernel_rfl) (by kernel_rfl) (fun _ _ _ h => h) (Or.inl ⟨by rfl, ?hy11⟩) (by assumption) ?r11
        case hy11 => (intro w hSw; (try dsimp only at hSw); first | (go_simp; done) | (go_simp; with_reducible rfl))
        try simp only [Act.put, List.setIfInBounds_toArray, List.set_cons_zero, List.set_cons_succ]
        refine wpAnyH_take (i := 10) (oi := { dst := some 92, op := _, type := _, pos := _, after := _, guard := _ }) (v := ?v12) rfl (by kernel_rfl) (by kernel_rfl) (by kernel_rfl) (fun _ _ _ h => h) (Or.inl ⟨by rfl, ?hy12⟩) (by assumption) ?r12
        case hy12 => (intro w hSw; (try dsimp only at hSw); first | (go_simp; done) | (go_simp; with_reducible rfl))
        try simp only [Act.put, List.setIfInBounds_toArray, List.set_cons_zero, List.set_cons_succ]
        refine wpAnyH_take (i := 11) (oi := { dst := some 93, op := _, type := _, pos := _, after := _, guard := _ }) (v := ?v13) rfl (by kernel_rfl) (by kernel_rfl) (by kernel_rfl) (fun _ _ _ h => h) (Or.inl ⟨by rfl, ?hy13⟩) (by assumption) ?r13
        case hy13 => (intro w hSw; (try dsimp only at hSw); first | (go_simp; done) | (go_simp; with_reducible rfl))
        try simp only [Act.put, List.setIfInBounds_toArray, List.set_cons_zero, List.set_cons_succ]
        refine wpAnyH_take (i := 12) (oi := { dst := some 94, op := _, type := _, pos := _, after := _, guard := _ }) (v := ?v14) rfl (by kernel_rfl) (by kernel_rfl) (by kernel_rfl) (fun _ _ _ h => h) (Or.inl ⟨by rfl, ?hy14⟩) (by assumption) ?r14
        case hy14 => (intro w hSw; (try dsimp only at hSw); first | (go_simp; done) | (go_simp; with_reducible rfl))
        try simp only [Act.put, List.setIfInBounds_toArray, List.set_cons_zero, List.set_cons_succ]
        refine wpAnyH_take (i := 13) (oi := { dst := some 4, op := _, type := _, pos := _, after := _, guard := _ }) (v := ?v15) rfl (by kernel_rfl) (by kernel_rfl) (by kernel_rfl) (fun _ _ _ h => h) (Or.inl ⟨by rfl, ?hy15⟩) (by assumption) ?r15
        case hy15 => (intro w hSw; (try dsimp only at hSw); first | (go_simp; done) | (go_simp; with_reducible rfl))
        try simp only [Act.put, List.setIfInBounds_toArray, List.set_cons_zero, List.set_cons_succ]
        refine wpAnyH_take (i := 14) (oi := { dst := some 5, op := _, type := _, pos := _, after := _, guard := _ }) (v := ?v16) rfl (by kernel_rfl) (by kernel_rfl) (by kernel_rfl) (fun _ _ _ h => h) (Or.inl ⟨by rfl, ?hy16⟩) (by assumption) ?r16
        case hy16 => (intro w hSw; (try dsimp only at hSw); first | (go_simp; done) | (go_simp; with_reducible rfl))
        try simp only [Act.put, List.setIfInBounds_toArray, List.set_cons_zero, List.set_cons_succ]
        refine wpAnyH_take (i := 15) (oi := { dst := some 6, op := _, type := _, pos := _, after := _, guard := _ }) (v := ?v17) rfl (by kernel_rfl) (by kernel_rfl) (by kernel_rfl) (fun _ _ _ h => h) (Or.inl ⟨by rfl, ?hy17⟩) (by assumption) ?r17
        case hy17 => (intro w hSw; (try dsimp only at hSw); first | (go_simp; done) | (go_simp; with_reducible rfl))
        try simp only [Act.put, List.setIfInBounds_toArray, List.set_cons_zero, List.set_cons_succ]
        refine wpAnyH_done (by kernel_rfl) ?_ _
        clear hHeld
        go_wp2
        go_ret3
        exact ⟨ret_three (by rw [HE2.out]) (by rw [HE2.out]) (by rw [HE2.out]), below_drew1 HBW.out⟩
      | cons name r =>
        have hrl : (name :: r).length = r.length + 1 := rfl
        rw [hrl] at HQ HC HL HMS q2
        obtain ⟨ad, rfl, hcell⟩ := str_at HRR.out.now 0 (by simp)
        have hcell : wr.cell? ad = some (.string name) := by rw [Addr.add_zero'] at hcell; exact hcell
        obtain ⟨AT, hAT⟩ : ∃ AT, AT = (if c = 1 then some ad else (some ad).map (·.add (1 * 1))) := ⟨_, rfl⟩
        obtain ⟨i0, hi0, hi4⟩ : ∃ i, Tryd.prog.info? 9 = some i ∧ i.size = 1 := Option.map_eq_some_iff.1 (by kernel_rfl : (Tryd.prog.info? 9).map (·.size) = some 1)
        have hcut := cut_from 43 9 .i64 Tryd.underlying43 hi0 1 hi4 (some ad) (r.length + 1) c 1 (by decide) (by omega)
        have HT := Lib.hid (show RestAt wr q AT r by rw [hAT]; exact RestAt.tail HRR.out HC.out)
        have e1 : (1 : Int).toNat = 1 := rfl
        rw [e1, ← hAT, Nat.add_sub_cancel] at hcut
        have HXN := Lib.hid (HX.out name (by simp))
        have HXR := Lib.hid (show ∀ x ∈ r, x.size ≤ 1048577 from fun x hx => HX.out x (List.mem_cons_of_mem _ hx))
        have hl1 : (0 : Int) < (r.length : Int) + 1 := by omega
        have hcb : r.length + 1 ≤ c := HC.out
        have HC1 := Lib.hid (show r.length ≤ c - 1 by omega)
        clear hAT hi0 hi4 e1 hrl
        by_cases hdd : name.toList = [46, 46]
        · have edd : (name.toList == [46, 46]) = true := beq_iff_eq.2 hdd
          have HE2 := Lib.hid (show resolveB ns p = resB ns (upS dir) r hops by rw [HE.out, resB_cons, if_pos hdd])
          have HUP := Lib.hid (fun w => up_any dir w (by have := HD.out; omega))
          have HUS := Lib.hid (show (upS dir).size ≤ 1048577 by have h1 := upS_le dir; have := HD.out; omega)
          clear hdd
          generalize upS dir = up at *
          go_wp2_with (first
            | ((with_reducible refine gate_store (t := 43) (p := 46) rfl ?_); refine ev_store_cell rfl rfl q 2 (.slice AT r.length (c - 1)) HQ.out ?hst ?_; (case hst => (have e2 := blk_frozen HQ.out 2; first | (go_simp; done) | (go_simp; rfl))); intro w4 hb_ ho_; have HQ4 : Hid (w4.heap[q]? = some (.cells (walkCells f dir AT r.length (c - 1) hops) 62 (0, 0))) := hb_; have HO4 := Lib.hid ho_; clear hb_ ho_ q0 q1 q2 q3 hcell; (obtain ⟨q0, q1, q2, q3⟩ := walk_at HQ4.out))
            | ((with_reducible refine gate_store (t := 9) (p := 56) rfl ?_); refine ev_store_cell rfl rfl q 1 (.string up) HQ4.out ?hst ?_; (case hst => (have e2 := blk_frozen HQ4.out 1; first | (go_simp; done) | (go_simp; rfl))); intro w5 hb_ ho_; have HQ5 : Hid (w5.heap[q]? = some (.cells (walkCells f up AT r.length (c - 1) hops) 62 (0, 0))) := hb_; have HO5 := Lib.hid (HO4.out.trans ho_ (fun i hi' _ => hi')); clear hb_ ho_)
            | (go_at_call 22; refine (HUP.out _).mono ?_; rintro e w' ⟨rfl, rfl⟩))
          go_roundw
          case rel => exact ⟨up, r, hops, AT, c - 1, HO.out.trans HO5.out (fun i hi' _ => hi'), HQ5.out, HT.out.step HO5.out, HC1.out, HUS.out, HXR.out, HH.out, by have := HL.out; show _ ≤ _; omega, HE2.out⟩
          case measure => rw [HMS.out, msr_at HQ5.out]; omega
        · have edd : (name.toList == [46, 46]) = false := beq_eq_false_iff_ne.2 hdd
          obtain ⟨bl, hbl⟩ : ∃ bl, bl = belowB dir name := ⟨_, rfl⟩
          have HBL := Lib.hid (fun w => below_any dir name w (by have := HD.out; omega) (by have := HXN.out; omega))
          have HBZ := Lib.hid (show bl.size ≤ 2097155 by rw [hbl]; have h1 := below_size dir name; have := HD.out; have := HXN.out; omega)
          have HE1 := Lib.hid (show resolveB ns p = _ by rw [HE.out, resB_cons, if_neg hdd])
          rw [← hbl] at HBL HE1
          have HSK := Lib.hid (fun h1 h2 => stepB_keep ns HWF.out dir bl r hops h1 h2 HXR.out HH.out HL.out)
          have HSD := Lib.hid (stepB_dir ns HWF.out dir bl r hops HD.out)
          have HDN := Lib.hid (stepB_done ns dir bl r hops)
          have HSTEP := Lib.hid (fun (w4 : World) hm4 hF4 hq4 hr4 => step_any lo hi f q ns HWF.out dir bl r hops AT (c - 1) w4 hm4 hF4 hq4 HQH.out HC1.out hr4 (by have := HBZ.out; omega) HH.out (by have h1 := HL.out; have h2 := HH.out; omega))
          clear hbl hdd
          generalize stepB ns dir bl r hops = st at *
          obtain ⟨⟨si, sd, se⟩, ⟨sdir, srest, shops⟩⟩ := st
          by_cases hse : se = 0
          · subst hse
            cases sd with
            | true =>
              have HE2 := Lib.hid (show resolveB ns p = (si, (ns.getD si root).f0, 0) by rw [HE1.out]; rfl)
              have HSI := Lib.hid (show idxOf ns bl = some si from HDN.out rfl)
              go_upto_region 14 with (first
            | ((with_reducible refine gate_store (t := 43) (p := 46) rfl ?_); refine ev_store_cell rfl rfl q 2 (.slice AT r.length (c - 1)) HQ.out ?hst ?_; (case hst => (have e2 := blk_frozen HQ.out 2; first | (go_simp; done) | (go_simp; rfl))); intro w4 hb_ ho_; have HQ4 : Hid (w4.heap[q]? = some (.cells (walkCells f dir AT r.length (c - 1) hops) 62 (0, 0))) := hb_; have HO4 := Lib.hid ho_; clear hb_ ho_ q0 q1 q2 q3 hcell; (obtain ⟨q0, q1, q2, q3⟩ := walk_at HQ4.out))
            | (go_at_call 26; refine (HBL.out _).mono ?_; rintro e w' ⟨rfl, rfl⟩)
            | (go_at_call 25; refine (HSTEP.out _ ((HM.out.below HBW.out).walk HO4.out HQ.out) (HFW.out.only HO4.out (fun k h1 h2 he => by have := HQH.out; omega)) HQ4.out (HT.out.step HO4.out)).mono ?_; rintro e w5 ⟨rfl, ho5, A5, c5, hq5, hc5, hr5⟩; have HO5 := Lib.hid (HO4.out.trans ho5 (fun i hi' _ => hi')); have HQ5 : Hid (w5.heap[q]? = some (.cells (walkCells f sdir A5 srest.length c5 shops) 62 (0, 0))) := hq5; have HC5 := Lib.hid hc5; have HR5 : Hid (RestAt w5 q A5 srest) := hr5; have HB5 := Lib.hid (show Below w.heap.size w w5 from below_only HBW.out HO5.out (fun i hi' => by rw [hi']; exact HQW.out)); clear ho5 hq5 hc5 hr5))
              have HF5 := Lib.hid (HFW.out.only HO5.out (fun k h1 h2 he => by have := HQH.out; omega))
              obtain ⟨An, cn, m, hpf, hcn, hcN, hmp⟩ := HF5.out.read
              have hil : si < ns.length := idxOf_lt HSI.out
              obtain ⟨y, ay, B2, d2, rfl, hyd, hyl, y0, y1, y2, y3, m2, q2'⟩ := node_at hcN si hil
              have HY := Lib.hid (show ns.getD si root = y by rw [List.getD_eq_getElem?_getD]; have := congrArg List.head? hyd; rw [List.head?_drop] at this; rw [this]; rfl)
              have f0 := cell_blk hpf (j := 0) rfl
              have hil2 : (si : Int) < (ns.length : Int) := by omega
              clear hyd hyl y1 y2 y3 m2 q2' hpf hcN hmp hcn
              refine wp_region_held_drew (S := (fun w' => w'.cell? ⟨f, 0, none⟩ = some (.slice (some ay) ns.length cn) ∧ w'.cell? (ay.add (si * 4)) = some (.string y.f0))) (by kernel_rfl) ?hS18 (fun hHeld => ?_)
              case hS18 => exact ⟨f0, y0⟩
              clear f0 y0 q0 q1 q2 q3
              refine wpAnyH_take (i := 0) (oi := { dst := some 73, op := _, type := _, pos := _, after := _, guard := _ }) (v := ?v19) rfl (by kernel_rfl) (by kernel_rfl) (by kernel_rfl) (fun _ _ _ h => h) (Or.inl ⟨by rfl, ?hy19⟩) (by assumption) ?r19
              case hy19 => (intro w hSw; (try dsimp only at hSw); first | (go_simp; done) | (go_simp; with_reducible rfl))
              try simp only [Act.put, List.setIfInBounds_toArray, List.set_cons_zero, List.set_cons_succ]
              refine wpAnyH_take (i := 1) (oi := { dst := some 74, op := _, type := _, pos := _, after := _, guard := _ }) (v := ?v20) rfl (by kernel_rfl) (by kernel_rfl) (by kernel_rfl) (fun _ _ _ h => h) (Or.inl ⟨by rfl, ?hy20⟩) (by assumption) ?r20
              case hy20 => (intro w hSw; (try dsimp only at hSw); first | (go_simp; done) | (go_simp; with_reducible rfl))
              try simp only [Act.put, List.setIfInBounds_toArray, List.set_cons_zero, List.set_cons_succ]
              refine wpAnyH_take (i := 2) (oi := { dst := some 75, op := _, type := _, pos := _, after := _, guard := _ }) (v := ?v21) rfl (by kernel_rfl) (by kernel_rfl) (by kernel_rfl) (fun _ _ _ h => h) (Or.inl ⟨by rfl, ?hy21⟩) (by assumption) ?r21
              case hy21 => (intro w hSw; (try dsimp only at hSw); first | (go_simp; done) | (go_simp; with_reducible rfl))
              try simp only [Act.put, List.setIfInBounds_toArray, List.set_cons_zero, List.set_cons_succ]
              refine wpAnyH_take (i := 3) (oi := { dst := some 76, op := _, type := _, pos := _, after := _, guard := _ }) (v := ?v22) rfl (by kernel_rfl) (by kernel_rfl) (by kernel_rfl) (fun _ _ _ h => h) (Or.inl ⟨by rfl, ?hy22⟩) (by assumption) ?r22
              case hy22 => (intro w hSw; (try dsimp only at hSw); first | (go_simp; done) | (go_simp; with_reducible rfl))
              try simp only [Act.put, List.setIfInBounds_toArray, List.set_cons_zero, List.set_cons_succ]
              refine wpAnyH_take (i := 4) (oi := { dst := some 77, op := _, type := _, pos := _, after := _, guard := _ }) (v := ?v23) rfl (by kernel_rfl) (by kernel_rfl) (by kernel_rfl) (fun _ _ _ h => h) (Or.inl ⟨by rfl, ?hy23⟩) (by assumption) ?r23
              case hy23 => (intro w hSw; (try dsimp only at hSw); first | (go_simp; done) | (go_simp; with_reducible rfl))
              try simp only [Act.put, List.setIfInBounds_toArray, List.set_cons_zero, List.set_cons_succ]
              refine wpAnyH_take (i := 5) (oi := { dst := some 78, op := _, type := _, pos := _, after := _, guard := _ }) (v := ?v24) rfl (by kernel_rfl) (by kernel_rfl) (by kernel_rfl) (fun _ _ _ h => h) (Or.inl ⟨by rfl, ?hy24⟩) (by assumption) ?r24
              case hy24 => (intro w hSw; (try dsimp only at hSw); first | (go_simp; done) | (go_simp; with_reducible rfl))
              try simp only [Act.put, List.setIfInBounds_toArray, List.set_cons_zero, List.set_cons_succ]
              refine wpAnyH_take (i := 6) (oi := { dst := some 79, op := _, type := _, pos := _, after := _, guard := _ }) (v := ?v25) rfl (by kernel_rfl) (by kernel_rfl) (by kernel_rfl) (fun _ _ _ h => h) (Or.inl ⟨by rfl, ?hy25⟩) (by assumption) ?r25
              case hy25 => (intro w hSw; (try dsimp only at hSw); first | (go_simp; done) | (go_simp; with_reducible rfl))
              try simp only [Act.put, List.setIfInBounds_toArray, List.set_cons_zero, List.set_cons_succ]
              refine wpAnyH_take (i := 7) (oi := { dst := some 80, op := _, type := _, pos := _, after := _, guard := _ }) (v := ?v26) rfl (by kernel_rfl) (by kernel_rfl) (by kernel_rfl) (fun _ _ _ h => h) (Or.inl ⟨by rfl, ?hy26⟩) (by assumption) ?r26
              case hy26 => (intro w hSw; (try dsimp only at hSw); first | (go_simp; done) | (go_simp; with_reducible rfl))
              try simp only [Act.put, List.setIfInBounds_toArray, List.set_cons_zero, List.set_cons_succ]
              refine wpAnyH_take (i := 8) (oi := { dst := some 81, op := _, type := _, pos := _, after := _, guard := _ }) (v := ?v27) rfl (by kernel_rfl) (by kernel_rfl) (by kernel_rfl) (fun _ _ _ h => h) (Or.inl ⟨by rfl, ?hy27⟩) (by assumption) ?r27
              case hy27 => (intro w hSw; (try dsimp only at hSw); first | (go_simp; done) | (go_simp; with_reducible rfl))
              try simp only [Act.put, List.setIfInBounds_toArray, List.set_cons_zero, List.set_cons_succ]
              refine wpAnyH_take (i := 9) (oi := { dst := some 4, op := _, type := _, pos := _, after := _, guard := _ }) (v := ?v28) rfl (by kernel_rfl) (by kernel_rfl) (by kernel_rfl) (fun _ _ _ h => h) (Or.inl ⟨by rfl, ?hy28⟩) (by assumption) ?r28
              case hy28 => (intro w hSw; (try dsimp only at hSw); first | (go_simp; done) | (go_simp; with_reducible rfl))
              try simp only [Act.put, List.setIfInBounds_toArray, List.set_cons_zero, List.set_cons_succ]
              refine wpAnyH_take (i := 10) (oi := { dst := some 5, op := _, type := _, pos := _, after := _, guard := _ }) (v := ?v29) rfl (by kernel_rfl) (by kernel_rfl) (by kernel_rfl) (fun _ _ _ h => h) (Or.inl ⟨by rfl, ?hy29⟩) (by assumption) ?r29
              case hy29 => (intro w hSw; (try dsimp only at hSw); first | (go_simp; done) | (go_simp; with_reducible rfl))
              try simp only [Act.put, List.setIfInBounds_toArray, List.set_cons_zero, List.set_cons_succ]
              refine wpAnyH_take (i := 11) (oi := { dst := some 6, op := _, type := _, pos := _, after := _, guard := _ }) (v := ?v30) rfl (by kernel_rfl) (by kernel_rfl) (by kernel_rfl) (fun _ _ _ h => h) (Or.inl ⟨by rfl, ?hy30⟩) (by assumption) ?r30
              case hy30 => (intro w hSw; (try dsimp only at hSw); first | (go_simp; done) | (go_simp; with_reducible rfl))
              try simp only [Act.put, List.setIfInBounds_toArray, List.set_cons_zero, List.set_cons_succ]
              refine wpAnyH_done (by kernel_rfl) ?_ _
              clear hHeld
              go_wp2
              go_ret3
              exact ⟨ret_three (by rw [HE2.out]) (by rw [HE2.out]; exact (congrArg (·.f0) HY.out).symm) (by rw [HE2.out]), below_drew1 HB5.out⟩
            | false =>
              have HE2 := Lib.hid (show resolveB ns p = resB ns sdir srest shops by rw [HE1.out]; rfl)
              have HK := Lib.hid (HSK.out rfl rfl)
              go_wp2_with (first
            | ((with_reducible refine gate_store (t := 43) (p := 46) rfl ?_); refine ev_store_cell rfl rfl q 2 (.slice AT r.length (c - 1)) HQ.out ?hst ?_; (case hst => (have e2 := blk_frozen HQ.out 2; first | (go_simp; done) | (go_simp; rfl))); intro w4 hb_ ho_; have HQ4 : Hid (w4.heap[q]? = some (.cells (walkCells f dir AT r.length (c - 1) hops) 62 (0, 0))) := hb_; have HO4 := Lib.hid ho_; clear hb_ ho_ q0 q1 q2 q3 hcell; (obtain ⟨q0, q1, q2, q3⟩ := walk_at HQ4.out))
            | (go_at_call 26; refine (HBL.out _).mono ?_; rintro e w' ⟨rfl, rfl⟩)
            | (go_at_call 25; refine (HSTEP.out _ ((HM.out.below HBW.out).walk HO4.out HQ.out) (HFW.out.only HO4.out (fun k h1 h2 he => by have := HQH.out; omega)) HQ4.out (HT.out.step HO4.out)).mono ?_; rintro e w5 ⟨rfl, ho5, A5, c5, hq5, hc5, hr5⟩; have HO5 := Lib.hid (HO4.out.trans ho5 (fun i hi' _ => hi')); have HQ5 : Hid (w5.heap[q]? = some (.cells (walkCells f sdir A5 srest.length c5 shops) 62 (0, 0))) := hq5; have HC5 := Lib.hid hc5; have HR5 : Hid (RestAt w5 q A5 srest) := hr5; have HB5 := Lib.hid (show Below w.heap.size w w5 from below_only HBW.out HO5.out (fun i hi' => by rw [hi']; exact HQW.out)); clear ho5 hq5 hc5 hr5))
              go_roundw
              case rel => exact ⟨sdir, srest, shops, A5, c5, HO.out.trans HO5.out (fun i hi' _ => hi'), HQ5.out, HR5.out, HC5.out, HSD.out, HK.out.1, HK.out.2.1, HK.out.2.2.1, HE2.out⟩
              case measure => rw [HMS.out, msr_at HQ5.out]; exact HK.out.2.2.2
          · have HE2 := Lib.hid (show resolveB ns p = (0, ⟨#[]⟩, se) by rw [HE1.out, if_neg hse])
            go_wp2_with (first
            | ((with_reducible refine gate_store (t := 43) (p := 46) rfl ?_); refine ev_store_cell rfl rfl q 2 (.slice AT r.length (c - 1)) HQ.out ?hst ?_; (case hst => (have e2 := blk_frozen HQ.out 2; first | (go_simp; done) | (go_simp; rfl))); intro w4 hb_ ho_; have HQ4 : Hid (w4.heap[q]? = some (.cells (walkCells f dir AT r.length (c - 1) hops) 62 (0, 0))) := hb_; have HO4 := Lib.hid ho_; clear hb_ ho_ q0 q1 q2 q3 hcell; (obtain ⟨q0, q1, q2, q3⟩ := walk_at HQ4.out))
            | (go_at_call 26; refine (HBL.out _).mono ?_; rintro e w' ⟨rfl, rfl⟩)
            | (go_at_call 25; refine (HSTEP.out _ ((HM.out.below HBW.out).walk HO4.out HQ.out) (HFW.out.only HO4.out (fun k h1 h2 he => by have := HQH.out; omega)) HQ4.out (HT.out.step HO4.out)).mono ?_; rintro e w5 ⟨rfl, ho5, A5, c5, hq5, hc5, hr5⟩; have HO5 := Lib.hid (HO4.out.trans ho5 (fun i hi' _ => hi')); have HQ5 : Hid (w5.heap[q]? = some (.cells (walkCells f sdir A5 srest.length c5 shops) 62 (0, 0))) := hq5; have HC5 := Lib.hid hc5; have HR5 : Hid (RestAt w5 q A5 srest) := hr5; have HB5 := Lib.hid (show Below w.heap.size w w5 from below_only HBW.out HO5.out (fun i hi' => by rw [hi']; exact HQW.out)); clear ho5 hq5 hc5 hr5))
            go_ret3
            exact ⟨ret_three (by rw [HE2.out]; rfl) (by rw [HE2.out]) (by rw [HE2.out]), HB5.out⟩
  · have HR2 := Lib.hid (show resolveB ns p = (0, ⟨#[]⟩, ce) by rw [HR.out, if_neg h0])
    go_enter Tryd.func10, Tryd.ntmps10
    go_wp2_with (go_at_call 23; refine HCL.out.mono ?_; rintro e w1 ⟨rfl, hw1⟩; have HB1 := Lib.hid hw1; clear hw1)
    go_ret3
    exact ⟨ret_three (by rw [HR2.out]; rfl) (by rw [HR2.out]) (by rw [HR2.out]), HB1.out⟩

end Go.Proofs.YtlkacodngjdagaaDoor.Vfs
