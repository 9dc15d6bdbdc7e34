/- New: the walk. -/
import Derived.Test.YtlkacodngjdagaaDoorNewA
namespace Go.Proofs.YtlkacodngjdagaaDoor.Vfs
open Go Go.Maps Go.WideMaps Go.RowKit Go.Proofs.YtlkacodngjdagaaDoorW.PrintWords Go.Proofs.YtlkacodngjdagaaDoor.Kinds Go.Proofs.YtlkacodngjdagaaDoor.Str Go.Proofs.YtlkacodngjdagaaDoor.Ev Go.Proofs.YtlkacodngjdagaaDoor.Frame
set_option linter.unusedVariables false

theorem root_M (W : World) (base : Nat) : kNd.M W base (fun _ => False) root [.string ⟨#[47]⟩, .int .i64 1, .slice none 0 0, .string ⟨#[]⟩] := k34_mkM W base _ root (Kd.R_nil _ _ _ _ _)
theorem ret_ptr {v : Value} {m n : Int} (h : m = n) : Ending.returned (.tuple #[v, .int .i64 m]) = .returned (.tuple #[v, .int .i64 n]) := by rw [h]

def Small (l : List Nd) : Prop := ∀ x ∈ l, x.f0.size < 1048577 ∧ x.f3.size < 1048577 ∧ x.f2.length < 1048577
def NewPost (w : World) (l : List Nd) (e : Ending) (w' : World) : Prop :=
  Below w.heap.size w w' ∧ ((newB l = 0 ∧ ∃ q, e = .returned (.tuple #[.pointer (some ⟨q, 0, none⟩), .int .i64 0]) ∧ FSat w' w.heap.size q (root :: l)) ∨ (newB l ≠ 0 ∧ e = .returned (.tuple #[.pointer none, .int .i64 (newB l)])))

set_option maxRecDepth 100000 in
set_option maxHeartbeats 8000000 in
theorem new_any (A : Option Addr) (c : Nat) (l : List Nd) (w : World) (hm : Mx w) (hr : kNd.C w A l.length l) (hz : Small l) (hln : l.length ≤ 1048576) :
    Calls Tryd.prog 8 #[.slice A l.length c] w (NewPost w l) := by
  have HR := Lib.hid hr
  have HM := Lib.hid hm
  have HZ := Lib.hid hz
  have hu := Tryd.underlying34
  have hu2 := Tryd.underlying53
  clear hm hr hz
  by_cases h256 : 256 < l.length
  · have HN := Lib.hid (show newB l = 68 by unfold newB; rw [if_pos h256])
    go_enter Tryd.func8, Tryd.ntmps8
    go_wp2
    go_ret2
    exact ⟨Below.refl _ _, .inr ⟨by rw [HN.out]; decide, ret_ptr HN.out.symm⟩⟩
  · have HN := Lib.hid (show newB l = if scan1 [root] l = 0 then scan2 (root :: l) l else scan1 [root] l by unfold newB; rw [if_neg h256])
    have HL := Lib.hid (show l.length ≤ 256 by omega)
    have hmm := @run_makeMap Tryd.prog
    go_enter Tryd.func8, Tryd.ntmps8
    go_wp2_with (first
      | ((with_reducible refine gate_dst (N := 18) rfl ?_); refine Kd.R_lit kNd w.heap.size 34 ?hg (N := 18) ?hd (xs := [root]) (inner := [.string ⟨#[47]⟩, .int .i64 1, .slice none 0 0, .string ⟨#[]⟩]) (ok := fun k => k = w.heap.size) (okp := fun _ => False) (w0 := w) ?hr ⟨rfl, ?hrep⟩ (fun _ hk => hk.elim) rfl (Below.refl _ _) (Nat.le_refl _) (by simp) ?_; (case hg => rfl); (case hd => rfl); (case hr => first | (go_simp; done) | (go_simp; rfl)); (case hrep => intro j q hj; match j, hj with | 0, hj => (obtain rfl : root = q := (by simpa using hj)); exact root_M _ _); intro v18 w1 hR1 hB1 hg1 hown1; (obtain ⟨A18, c18, he, _, _⟩ := Kd.R_reads hR1); (have he : v18 = .slice A18 1 c18 := he); subst he; have HR1 := Lib.hid hR1; have HW1 := Lib.hid hB1; clear hR1 hB1 hg1 hown1)
      | ((obtain ⟨w2, hp2, hM2, hO2⟩ := MapAt.put (MapAt.made w1) root (by decide) (by decide) rfl); (have hp3 : (Instr.mapUpdate 51 (.map (some w1.heap.size)) (.string ⟨#[47]⟩) (.int .i64 0)).run Tryd.prog (w1.alloc (.map #[] 0)) = .ok () w2 := hp2); refine ev_insert rfl rfl 51 (.tmp 19) (.const (.string ⟨#[47]⟩)) (.const (.int .i64 0)) rfl (.map (some w1.heap.size)) (.string ⟨#[47]⟩) (.int .i64 0) rfl rfl rfl hp3 ?_; have HM2 := Lib.hid hM2; have HO2 := Lib.hid hO2; clear hp2 hp3 hM2 hO2)
      | ((with_reducible refine gate_dst (N := 22) rfl ?_); refine box_event ?hg (N := 22) ?hd (cs := #[.slice A18 1 c18, .map (some w1.heap.size)]) (t := 53) ?hr ?_; (case hd => rfl); (case hg => rfl); (case hr => first | (go_simp; done) | (go_simp; rfl)); intro g4 hg_ w3 hb_ hw_; have HF3 := Lib.hid hb_; have HB3 := Lib.hid hw_; have HG4 := Lib.hid hg_; clear hb_ hw_ hg_))
    have hsz : w.heap.size < w1.heap.size := by
      obtain ⟨g, cap, he, _, hlt, _⟩ := Kd.R_form HR1.out (by decide)
      have := HR1.out.1 g (by rw [he]; rfl)
      omega
    have hsz2 : w1.heap.size + 1 ≤ w2.heap.size := by have := HO2.out.size; have e := alloc_size w1 (.map #[] 0); omega
    have HFS := Lib.hid (show FSat w3 w.heap.size g4 [root] from ⟨_, w1.heap.size, HF3.out, Kd.R_mono (Kd.R_step HR1.out (w1 := w3) (fun k hk hlt => by
        have e1 := HB3.out.block k (by omega)
        have e2 := HO2.out.block k (by have e := alloc_size w1 (.map #[] 0); omega) (by omega)
        have e3 := (below_alloc (Below.refl w1.heap.size w1) (.map #[] 0)).block k hlt
        exact e1.trans (e2.trans e3))) (fun k hk => ⟨by omega, by have := HG4.out; omega, by omega⟩), HM2.out.below HB3.out, by have := HG4.out; omega, by omega, by have := HG4.out; omega⟩)
    have HW3 := Lib.hid (show Below w.heap.size w w3 from below_then HW1.out HW1.out.size (below_then (HO2.out.below2 (below_alloc (Below.refl w1.heap.size w1) _) (fun k hk => by omega)) (by omega) HB3.out))
    clear hsz hsz2
    have x256 : l.length ≤ 256 := HL.out
    go_loopw [25] (fun i wr => ∃ k : Nat, k ≤ l.length ∧ i = .int .i64 k ∧ Hid (FSat wr w.heap.size g4 (root :: l.take k)) ∧ Hid (Below w.heap.size w wr) ∧ Hid (scan1 [root] l = scan1 (root :: l.take k) (l.drop k))) (fun i _ => l.length - (intOf i).toNat)
    case atStart => exact ⟨0, Nat.zero_le _, rfl, HFS.out, HW3.out, rfl⟩
    case round =>
      obtain ⟨k, hk, rfl, HF, HW, HS⟩ := hrel
      clear HFS HW3 HF3 HB3 HM2 HO2 HR1 HW1 HG4
      by_cases hlt : k < l.length
      · obtain ⟨x, ad, A2, c2, rfl, hdrop, hxl, x0, x1, x2, x3, l2, g2⟩ := node_at (Kd.C_below HR.out HW.out) k hlt
        obtain ⟨hz0, hz3, hz2⟩ := HZ.out x hxl
        have HD := Lib.hid hdrop
        have HTK := Lib.hid (show root :: l.take (k + 1) = (root :: l.take k) ++ [x] by
            have h1 : l[k]? = some x := by have := congrArg List.head? hdrop; rw [List.head?_drop] at this; simpa using this
            rw [List.take_add_one, h1]; rfl)
        have HLN := Lib.hid (show (root :: l.take k).length = k + 1 by simp; omega)
        have KX := Lib.hid (fun W' (h : Below wr.heap.size wr W') => k34_mk W' x l2 (Kd.C_below g2 h))
        have KG := Lib.hid (fun W' (h : Below wr.heap.size wr W') => Kd.C_below g2 h)
        have HZ0 := Lib.hid hz0; have HZ3 := Lib.hid hz3; have HZ2 := Lib.hid hz2
        have BA := Lib.hid (fun o : Obj => below_alloc (Below.refl wr.heap.size wr) o)
        obtain ⟨e0, he0⟩ : ∃ e, e = fitsB x := ⟨_, rfl⟩
        have HE0 := Lib.hid he0
        obtain ⟨ns, hns⟩ : ∃ ns, ns = root :: l.take k := ⟨_, rfl⟩
        rw [← hns] at HF HS HTK HLN
        have HNS := Lib.hid hns
        clear hdrop hxl hz0 hz3 hz2 l2 g2 he0 hns
        obtain ⟨v, m, hpb, hRv, hMp, hlo, hlm, hpm⟩ := HF.out
        obtain ⟨Av, cv, rfl, hcv, _⟩ := Kd.R_reads hRv
        have HPB0 := Lib.hid hpb; have HRV0 := Lib.hid hRv; have HMP0 := Lib.hid hMp; have HLO := Lib.hid hlo; have HLM := Lib.hid hlm; have HPM := Lib.hid hpm; have G4 := Lib.hid (blk_lt hpb)
        clear hpb hRv hMp hlo hlm hpm hcv
        by_cases he : e0 = 0
        · subst he
          go_wp2_with (go_at_call 21; refine (as_int HE0.out.symm (fits_any x _ _ (HM.out.below (below_then HW.out HW.out.size (BA.out _))) (KX.out _ (BA.out _)) HZ0.out HZ3.out HZ2.out)).mono ?_; rintro e w5 ⟨rfl, hw5⟩; have HN5 := Lib.hid (blk_below (blk_new wr _) hw5); have HB5 := Lib.hid (below_then (BA.out _) (BA.out _).size hw5); clear hw5)
          have HPB := Lib.hid (blk_below HPB0.out HB5.out); have HMP := Lib.hid (HMP0.out.below HB5.out)
          obtain ⟨ix, hix⟩ : ∃ ix, ix = idxOf ns x.f0 := ⟨_, rfl⟩
          have HIX := Lib.hid hix
          clear hix
          have d0 := cell_blk HPB.out (j := 0) rfl; have d1 := cell_blk HPB.out (j := 1) rfl; have n0 := cell_blk HN5.out (j := 0) rfl
          have lookd : (Instr.lookup 51 (.map (some m)) (.string x.f0) true).run Tryd.prog w5.drew = .ok (.tuple #[.int .i64 (ix.getD 0 : Nat), .bool ix.isSome]) w5.drew := by have h := (HMP.out.same (w1 := w5.drew) rfl).look x.f0 (by have := HZ0.out; omega); rw [← HIX.out] at h; exact h
          refine wp_region_held_drew (S := (fun w' => w'.cell? ⟨g4, 0, none⟩ = some (.slice Av ns.length cv) ∧ w'.cell? ⟨g4, 1, none⟩ = some (.map (some m)) ∧ w'.cell? ⟨wr.heap.size, 0, none⟩ = some (.string x.f0) ∧ (Instr.lookup 51 (.map (some m)) (.string x.f0) true).run Tryd.prog w' = .ok (.tuple #[.int .i64 (ix.getD 0 : Nat), .bool ix.isSome]) w')) (by kernel_rfl) ?hS1 (fun hHeld => ?_)
          case hS1 => exact ⟨d0, d1, n0, lookd⟩
          clear d0 d1 n0 lookd
          refine wpAnyH_take (i := 0) (oi := { dst := some 35, op := _, type := _, pos := _, after := _, guard := _ }) (v := ?v2) rfl (by kernel_rfl) (by kernel_rfl) (by kernel_rfl) (fun _ _ _ h => h) (Or.inl ⟨by rfl, ?hy2⟩) (by assumption) ?r2
          case hy2 => (intro w hSw; (try dsimp only at hSw); first | (go_simp; done) | (go_simp; with_reducible rfl))
          try simp only [Act.put, List.setIfInBounds_toArray, List.set_cons_zero, List.set_cons_succ]
          refine wpAnyH_take (i := 1) (oi := { dst := some 36, op := _, type := _, pos := _, after := _, guard := _ }) (v := ?v3) rfl (by kernel_rfl) (by kernel_rfl) (by kernel_rfl) (fun _ _ _ h => h) (Or.inl ⟨by rfl, ?hy3⟩) (by assumption) ?r3
          case hy3 => (intro w hSw; (try dsimp only at hSw); first | (go_simp; done) | (go_simp; with_reducible rfl))
          try simp only [Act.put, List.setIfInBounds_toArray, List.set_cons_zero, List.set_cons_succ]
          refine wpAnyH_take (i := 2) (oi := { dst := some 37, op := _, type := _, pos := _, after := _, guard := _ }) (v := ?v4) rfl (by kernel_rfl) (by kernel_rfl) (by kernel_rfl) (fun _ _ _ h => h) (Or.inl ⟨by rfl, ?hy4⟩) (by assumption) ?r4
          case hy4 => (intro w hSw; (try dsimp only at hSw); first | (go_simp; done) | (go_simp; with_reducible rfl))
          try simp only [Act.put, List.setIfInBounds_toArray, List.set_cons_zero, List.set_cons_succ]
          refine wpAnyH_take (i := 3) (oi := { dst := some 38, op := _, type := _, pos := _, after := _, guard := _ }) (v := ?v5) rfl (by kernel_rfl) (by kernel_rfl) (by kernel_rfl) (fun _ _ _ h => h) (Or.inl ⟨by rfl, ?hy5⟩) (by assumption) ?r5
          case hy5 => (intro w hSw; (try dsimp only at hSw); first | (go_simp; done) | (go_simp; with_reducible rfl))
          try simp only [Act.put, List.setIfInBounds_toArray, List.set_cons_zero, List.set_cons_succ]
          refine wpAnyH_take (i := 4) (oi := { dst := some 39, op := _, type := _, pos := _, after := _, guard := _ }) (v := ?v6) rfl (by kernel_rfl) (by kernel_rfl) (by kernel_rfl) (fun _ _ _ h => h) (Or.inl ⟨by rfl, ?hy6⟩) (by assumption) ?r6
          case hy6 => (intro w hSw; (try dsimp only at hSw); first | (go_simp; done) | (go_simp; with_reducible rfl))
          try simp only [Act.put, List.setIfInBounds_toArray, List.set_cons_zero, List.set_cons_succ]
          refine wpAnyH_take (i := 5) (oi := { dst := some 40, op := _, type := _, pos := _, after := _, guard := _ }) (v := ?v7) rfl (by kernel_rfl) (by kernel_rfl) (by kernel_rfl) (fun _ _ _ h => h) (Or.inl ⟨by rfl, ?hy7⟩) (by assumption) ?r7
          case hy7 => (intro w hSw; (try dsimp only at hSw); first | (go_simp; done) | (go_simp; with_reducible rfl))
          try simp only [Act.put, List.setIfInBounds_toArray, List.set_cons_zero, List.set_cons_succ]
          refine wpAnyH_take (i := 6) (oi := { dst := some 41, op := _, type := _, pos := _, after := _, guard := _ }) (v := ?v8) rfl (by kernel_rfl) (by kernel_rfl) (by kernel_rfl) (fun _ _ _ h => h) (Or.inl ⟨by rfl, ?hy8⟩) (by assumption) ?r8
          case hy8 => (intro w hSw; (try dsimp only at hSw); first | (go_simp; done) | (go_simp; with_reducible rfl))
          try simp only [Act.put, List.setIfInBounds_toArray, List.set_cons_zero, List.set_cons_succ]
          refine wpAnyH_take (i := 7) (oi := { dst := some 34, op := _, type := _, pos := _, after := _, guard := _ }) (v := ?v9) rfl (by kernel_rfl) (by kernel_rfl) (by kernel_rfl) (fun _ _ _ h => h) (Or.inl ⟨by rfl, ?hy9⟩) (by assumption) ?r9
          case hy9 => (intro w hSw; (try dsimp only at hSw); first | (go_simp; done) | (go_simp; with_reducible rfl))
          try simp only [Act.put, List.setIfInBounds_toArray, List.set_cons_zero, List.set_cons_succ]
          refine wpAnyH_take (i := 8) (oi := { dst := some 42, op := _, type := _, pos := _, after := _, guard := _ }) (v := ?v10) rfl (by kernel_rfl) (by kernel_rfl) (by kernel_rfl) (fun _ _ _ h => h) (Or.inl ⟨by rfl, ?hy10⟩) (by assumption) ?r10
          case hy10 => (intro w hSw; (try dsimp only at hSw); first | (go_simp; done) | (go_simp; with_reducible rfl))
          try simp only [Act.put, List.setIfInBounds_toArray, List.set_cons_zero, List.set_cons_succ]
          refine wpAnyH_take (i := 9) (oi := { dst := some 43, op := _, type := _, pos := _, after := _, guard := _ }) (v := ?v11) rfl (by kernel_rfl) (by kernel_rfl) (by kernel_rfl) (fun _ _ _ h => h) (Or.inl ⟨by rfl, ?hy11⟩) (by assumption) ?r11
          case hy11 => (intro w hSw; (try dsimp only at hSw); first | (go_simp; done) | (go_simp; with_reducible rfl))
          try simp only [Act.put, List.setIfInBounds_toArray, List.set_cons_zero, List.set_cons_succ]
          refine wpAnyH_take (i := 10) (oi := { dst := some 8, op := _, type := _, pos := _, after := _, guard := _ }) (v := ?v12) rfl (by kernel_rfl) (by kernel_rfl) (by kernel_rfl) (fun _ _ _ h => h) (Or.inl ⟨by rfl, ?hy12⟩) (by assumption) ?r12
          case hy12 => (intro w hSw; (try dsimp only at hSw); first | (go_simp; done) | (go_simp; with_reducible rfl))
          try simp only [Act.put, List.setIfInBounds_toArray, List.set_cons_zero, List.set_cons_succ]
          refine wpAnyH_take (i := 11) (oi := { dst := some 9, op := _, type := _, pos := _, after := _, guard := _ }) (v := ?v13) rfl (by kernel_rfl) (by kernel_rfl) (by kernel_rfl) (fun _ _ _ h => h) (Or.inl ⟨by rfl, ?hy13⟩) (by assumption) ?r13
          case hy13 => (intro w hSw; (try dsimp only at hSw); first | (go_simp; done) | (go_simp; with_reducible rfl))
          try simp only [Act.put, List.setIfInBounds_toArray, List.set_cons_zero, List.set_cons_succ]
          refine wpAnyH_done (by kernel_rfl) ?_ _
          clear hHeld
          have HB6 := Lib.hid (below_drew1 HB5.out); have HN6 : Hid (w5.drew.heap[wr.heap.size]? = _) := HN5.out; have SZ6 := Lib.hid (show w5.drew.heap.size = w5.heap.size from rfl)
          have GZ := Lib.hid (blk_lt HN5.out)
          clear HPB HMP HN5 HB5
          generalize w5.drew = w6 at *
          cases hsm : ix.isSome with
          | true =>
            have HNZ := Lib.hid (show newB l = 61 by
              have h := HS.out; rw [HD.out, scan1_cons, if_pos HE0.out.symm, if_pos (by rw [← HIX.out]; exact hsm)] at h
              rw [HN.out, h]; rfl)
            go_wp2
            go_ret2
            exact ⟨below_then HW.out HW.out.size HB6.out, .inr ⟨by rw [HNZ.out]; decide, ret_ptr HNZ.out.symm⟩⟩
          | false =>
            have HNO := Lib.hid (show idxOf ns x.f0 = none by rw [← HIX.out]; simpa using hsm)
            have HSN := Lib.hid (show scan1 [root] l = scan1 (ns ++ [x]) (l.drop (k + 1)) by
                have h := HS.out; rw [HD.out, scan1_cons, if_pos HE0.out.symm, if_neg (by rw [← HIX.out, hsm]; decide)] at h; exact h)
            have n2 := cell_blk HN6.out (j := 2) rfl
            go_wp2_with (first
              | (at_builtin; refine Kd.R_append_row (Value.int .u8) 0 (w0 := wr) wr.heap.size rfl _ _ 32 5 (.int .u8 0) 1 rfl Tryd.underlying32 (by kernel_rfl) rfl (by decide) (.slice none 0 0) [] x.f2 A2 x.f2.length c2 (fun k => w6.heap.size ≤ k) rfl rfl (fun _ hk => hk) (Kd.R_nil _ _ _ _ _) (KG.out _ HB6.out) HB6.out HB6.out.size (by have := HZ2.out; simp; omega) ?_; intro v7 w7 hR7 hB7 hg7 hat7; (obtain ⟨A7, c7, he7, _, _⟩ := Kd.R_reads hR7); (have he7 : v7 = .slice A7 x.f2.length c7 := he7); subst he7; have HR7 := Lib.hid hR7; have HB7 := Lib.hid hB7; have SZ7 := Lib.hid hg7.size; have HN7 := Lib.hid ((only_grown hg7).blk HN6.out (by simp [Value.ownBlock])); clear hR7 hB7 hg7 hat7 n2)
              | ((with_reducible refine gate_store (t := 32) (p := 48) rfl ?_); refine ev_store_cell rfl rfl wr.heap.size 2 (.slice A7 x.f2.length c7) HN7.out ?hst ?_; (case hst => (have f2 := blk_frozen HN7.out 2; have f1 := cell_blk HN7.out (j := 2) rfl; first | (go_simp; done) | (go_simp; rfl))); intro w8 hb8 ho8; have HN8 : Hid (w8.heap[wr.heap.size]? = some (.cells #[.string x.f0, .int .i64 x.f1, .slice A7 x.f2.length c7, .string x.f3] 34 (0, 0))) := hb8; have HB8 := Lib.hid (below_only HB7.out ho8 (fun i hi => Nat.le_of_eq hi.symm)); have HO8 := Lib.hid ho8; clear hb8 ho8))
            have HPB := Lib.hid (blk_below HPB0.out HB8.out); have HMP := Lib.hid (HMP0.out.below HB8.out)
            have d0 := cell_blk HPB.out (j := 0) rfl; have d1 := cell_blk HPB.out (j := 1) rfl; have n0 := cell_blk HN8.out (j := 0) rfl
            refine wp_region_held_drew (S := (fun w' => w'.cell? ⟨g4, 0, none⟩ = some (.slice Av ns.length cv) ∧ w'.cell? ⟨g4, 1, none⟩ = some (.map (some m)) ∧ w'.cell? ⟨wr.heap.size, 0, none⟩ = some (.string x.f0))) (by kernel_rfl) ?hS14 (fun hHeld => ?_)
            case hS14 => exact ⟨d0, d1, n0⟩
            clear d0 d1 n0
            refine wpAnyH_take (i := 0) (oi := { dst := some 49, op := _, type := _, pos := _, after := _, guard := _ }) (v := ?v15) rfl (by kernel_rfl) (by kernel_rfl) (by kernel_rfl) (fun _ _ _ h => h) (Or.inl ⟨by rfl, ?hy15⟩) (by assumption) ?r15
            case hy15 => (intro w hSw; (try dsimp only at hSw); first | (go_simp; done) | (go_simp; with_reducible rfl))
            try simp only [Act.put, List.setIfInBounds_toArray, List.set_cons_zero, List.set_cons_succ]
            refine wpAnyH_take (i := 1) (oi := { dst := some 50, op := _, type := _, pos := _, after := _, guard := _ }) (v := ?v16) rfl (by kernel_rfl) (by kernel_rfl) (by kernel_rfl) (fun _ _ _ h => h) (Or.inl ⟨by rfl, ?hy16⟩) (by assumption) ?r16
            case hy16 => (intro w hSw; (try dsimp only at hSw); first | (go_simp; done) | (go_simp; with_reducible rfl))
            try simp only [Act.put, List.setIfInBounds_toArray, List.set_cons_zero, List.set_cons_succ]
            refine wpAnyH_take (i := 2) (oi := { dst := some 51, op := _, type := _, pos := _, after := _, guard := _ }) (v := ?v17) rfl (by kernel_rfl) (by kernel_rfl) (by kernel_rfl) (fun _ _ _ h => h) (Or.inl ⟨by rfl, ?hy17⟩) (by assumption) ?r17
            case hy17 => (intro w hSw; (try dsimp only at hSw); first | (go_simp; done) | (go_simp; with_reducible rfl))
            try simp only [Act.put, List.setIfInBounds_toArray, List.set_cons_zero, List.set_cons_succ]
            refine wpAnyH_take (i := 3) (oi := { dst := some 52, op := _, type := _, pos := _, after := _, guard := _ }) (v := ?v18) rfl (by kernel_rfl) (by kernel_rfl) (by kernel_rfl) (fun _ _ _ h => h) (Or.inl ⟨by rfl, ?hy18⟩) (by assumption) ?r18
            case hy18 => (intro w hSw; (try dsimp only at hSw); first | (go_simp; done) | (go_simp; with_reducible rfl))
            try simp only [Act.put, List.setIfInBounds_toArray, List.set_cons_zero, List.set_cons_succ]
            refine wpAnyH_take (i := 4) (oi := { dst := some 53, op := _, type := _, pos := _, after := _, guard := _ }) (v := ?v19) rfl (by kernel_rfl) (by kernel_rfl) (by kernel_rfl) (fun _ _ _ h => h) (Or.inl ⟨by rfl, ?hy19⟩) (by assumption) ?r19
            case hy19 => (intro w hSw; (try dsimp only at hSw); first | (go_simp; done) | (go_simp; with_reducible rfl))
            try simp only [Act.put, List.setIfInBounds_toArray, List.set_cons_zero, List.set_cons_succ]
            refine wpAnyH_take (i := 5) (oi := { dst := some 54, op := _, type := _, pos := _, after := _, guard := _ }) (v := ?v20) rfl (by kernel_rfl) (by kernel_rfl) (by kernel_rfl) (fun _ _ _ h => h) (Or.inl ⟨by rfl, ?hy20⟩) (by assumption) ?r20
            case hy20 => (intro w hSw; (try dsimp only at hSw); first | (go_simp; done) | (go_simp; with_reducible rfl))
            try simp only [Act.put, List.setIfInBounds_toArray, List.set_cons_zero, List.set_cons_succ]
            refine wpAnyH_take (i := 6) (oi := { dst := some 55, op := _, type := _, pos := _, after := _, guard := _ }) (v := ?v21) rfl (by kernel_rfl) (by kernel_rfl) (by kernel_rfl) (fun _ _ _ h => h) (Or.inl ⟨by rfl, ?hy21⟩) (by assumption) ?r21
            case hy21 => (intro w hSw; (try dsimp only at hSw); first | (go_simp; done) | (go_simp; with_reducible rfl))
            try simp only [Act.put, List.setIfInBounds_toArray, List.set_cons_zero, List.set_cons_succ]
            refine wpAnyH_take (i := 7) (oi := { dst := some 56, op := _, type := _, pos := _, after := _, guard := _ }) (v := ?v22) rfl (by kernel_rfl) (by kernel_rfl) (by kernel_rfl) (fun _ _ _ h => h) (Or.inl ⟨by rfl, ?hy22⟩) (by assumption) ?r22
            case hy22 => (intro w hSw; (try dsimp only at hSw); first | (go_simp; done) | (go_simp; with_reducible rfl))
            try simp only [Act.put, List.setIfInBounds_toArray, List.set_cons_zero, List.set_cons_succ]
            refine wpAnyH_take (i := 8) (oi := { dst := some 57, op := _, type := _, pos := _, after := _, guard := _ }) (v := ?v23) rfl (by kernel_rfl) (by kernel_rfl) (by kernel_rfl) (fun _ _ _ h => h) (Or.inl ⟨by rfl, ?hy23⟩) (by assumption) ?r23
            case hy23 => (intro w hSw; (try dsimp only at hSw); first | (go_simp; done) | (go_simp; with_reducible rfl))
            try simp only [Act.put, List.setIfInBounds_toArray, List.set_cons_zero, List.set_cons_succ]
            refine wpAnyH_take (i := 9) (oi := { dst := some 58, op := _, type := _, pos := _, after := _, guard := _ }) (v := ?v24) rfl (by kernel_rfl) (by kernel_rfl) (by kernel_rfl) (fun _ _ _ h => h) (Or.inl ⟨by rfl, ?hy24⟩) (by assumption) ?r24
            case hy24 => (intro w hSw; (try dsimp only at hSw); first | (go_simp; done) | (go_simp; with_reducible rfl))
            try simp only [Act.put, List.setIfInBounds_toArray, List.set_cons_zero, List.set_cons_succ]
            refine wpAnyH_ready (rs := [10]) (by kernel_rfl) (by simp) ?_
            refine AllReadyH.cons (o := { dst := some 59, op := _, type := _, pos := _, after := _, guard := _ }) rfl (fun K hK => ?_) AllReadyH.nil
            go_simp
            refine hK.out _ _ ?hS25 (fun hHeld => ?_)
            case hS25 => exact hHeld
            clear hK K
            try simp only [Act.put, List.setIfInBounds_toArray, List.set_cons_zero, List.set_cons_succ]
            obtain ⟨w9, hr9, hM9, hO9⟩ := MapAt.put (HMP.out.same (w1 := w8.drew) rfl) x (by have := HZ0.out; omega) (by have := HLN.out; omega) HNO.out
            have HO9 : Hid (Only (· = m) w8 w9) := ⟨hO9.os, hO9.tape, hO9.output, hO9.size, hO9.block⟩
            have HM9 := Lib.hid hM9
            have HN9 := Lib.hid (HO9.out.blk HN8.out (by have h1 := HMP0.out.lt; omega))
            have HPB9 := Lib.hid (HO9.out.blk HPB.out HPM.out)
            refine wpAnyH_ready (rs := [11]) (by kernel_rfl) (by simp) ?_
            refine AllReadyH.cons (o := { dst := none, op := _, type := _, pos := _, after := _, guard := _ }) rfl (fun K hK => ?_) AllReadyH.nil
            refine step_mapUpdate rfl rfl 51 (.tmp 52) (.tmp 54) (.tmp 59) rfl (.map (some m)) (.string x.f0) (.int .i64 ((ns.length : Nat) : Int)) rfl rfl rfl hr9 ?_
            refine hK.out _ _ ?hS26 (fun hHeld => ?_)
            case hS26 => exact ⟨cell_blk HPB9.out (j := 0) rfl, cell_blk HPB9.out (j := 1) rfl, cell_blk HN9.out (j := 0) rfl⟩
            clear hK K
            try simp only [Act.put, List.setIfInBounds_toArray, List.set_cons_zero, List.set_cons_succ]
            refine wpAnyH_done (by kernel_rfl) ?_ _
            clear hHeld hr9 hM9 hO9
            go_upto_region 15 with fail
            have q1 := cell_blk HN9.out (j := 0) rfl; have q2 := cell_blk HN9.out (j := 1) rfl; have q3 := cell_blk HN9.out (j := 2) rfl; have q4 := cell_blk HN9.out (j := 3) rfl
            have SZ8 := Lib.hid HO8.out.size; have SZ9 := Lib.hid HO9.out.size
            refine wp_region_held_drew (S := (fun w' => w'.cell? ⟨wr.heap.size, 0, none⟩ = some (.string x.f0) ∧ w'.cell? ⟨wr.heap.size, 1, none⟩ = some (.int .i64 x.f1) ∧ w'.cell? ⟨wr.heap.size, 2, none⟩ = some (.slice A7 x.f2.length c7) ∧ w'.cell? ⟨wr.heap.size, 3, none⟩ = some (.string x.f3))) (by kernel_rfl) ?hS27 (fun hHeld => ?_)
            case hS27 => exact ⟨q1, q2, q3, q4⟩
            clear q1 q2 q3 q4
            refine wpAnyH_take (i := 0) (oi := { dst := some 60, op := _, type := _, pos := _, after := _, guard := _ }) (v := ?v28) rfl (by kernel_rfl) (by kernel_rfl) (by kernel_rfl) (fun _ _ _ h => h) (Or.inl ⟨by rfl, ?hy28⟩) (by assumption) ?r28
            case hy28 => (intro w hSw; (try dsimp only at hSw); first | (go_simp; done) | (go_simp; with_reducible rfl))
            try simp only [Act.put, List.setIfInBounds_toArray, List.set_cons_zero, List.set_cons_succ]
            refine wpAnyH_take (i := 1) (oi := { dst := some 61, op := _, type := _, pos := _, after := _, guard := _ }) (v := ?v29) rfl (by kernel_rfl) (by kernel_rfl) (by kernel_rfl) (fun _ _ _ h => h) (Or.inl ⟨by rfl, ?hy29⟩) (by assumption) ?r29
            case hy29 => (intro w hSw; (try dsimp only at hSw); first | (go_simp; done) | (go_simp; with_reducible rfl))
            try simp only [Act.put, List.setIfInBounds_toArray, List.set_cons_zero, List.set_cons_succ]
            refine wpAnyH_take (i := 2) (oi := { dst := some 62, op := _, type := _, pos := _, after := _, guard := _ }) (v := ?v30) rfl (by kernel_rfl) (by kernel_rfl) (by kernel_rfl) (fun _ _ _ h => h) (Or.inl ⟨by rfl, ?hy30⟩) (by assumption) ?r30
            case hy30 => (intro w hSw; (try dsimp only at hSw); first | (go_simp; done) | (go_simp; with_reducible rfl))
            try simp only [Act.put, List.setIfInBounds_toArray, List.set_cons_zero, List.set_cons_succ]
            refine wpAnyH_take (i := 3) (oi := { dst := some 63, op := _, type := _, pos := _, after := _, guard := _ }) (v := ?v31) rfl (by kernel_rfl) (by kernel_rfl) (by kernel_rfl) (fun _ _ _ h => h) (Or.inl ⟨by rfl, ?hy31⟩) (by assumption) ?r31
            case hy31 => (intro w hSw; (try dsimp only at hSw); first | (go_simp; done) | (go_simp; with_reducible rfl))
            try simp only [Act.put, List.setIfInBounds_toArray, List.set_cons_zero, List.set_cons_succ]
            refine wpAnyH_take (i := 5) (oi := { dst := some 65, op := _, type := _, pos := _, after := _, guard := _ }) (v := ?v32) rfl (by kernel_rfl) (by kernel_rfl) (by kernel_rfl) (fun _ _ _ h => h) (Or.inl ⟨by rfl, ?hy32⟩) (by assumption) ?r32
            case hy32 => (intro w hSw; (try dsimp only at hSw); first | (go_simp; done) | (go_simp; with_reducible rfl))
            try simp only [Act.put, List.setIfInBounds_toArray, List.set_cons_zero, List.set_cons_succ]
            have E9 : w9.drew.heap = w9.heap := rfl
            have HOK := Lib.hid (show ∀ k, (w.heap.size ≤ k ∧ k ≠ g4 ∧ k ≠ m) → k < wr.heap.size → w9.drew.heap[k]? = wr.heap[k]? from fun k hk hlt => (HO9.out.block k (Nat.lt_of_lt_of_le hlt HB8.out.size) hk.2.2).trans (HB8.out.block k hlt))
            have HRV9 := Lib.hid (Kd.R_step HRV0.out (w1 := w9.drew) HOK.out)
            have HR79 := Lib.hid (Kd.R_step HR7.out (w1 := w9.drew) (fun k hk hlt => (HO9.out.block k (Nat.lt_of_lt_of_le hlt SZ8.out) (by have h1 := HMP0.out.lt; have h2 := GZ.out; have h3 := SZ6.out; omega)).trans (HO8.out.block k hlt (by have h2 := GZ.out; have h3 := SZ6.out; omega))))
            have HBW9 := Lib.hid (show Below w.heap.size w w9.drew from below_drew1 (below_only (below_then HW.out HW.out.size HB8.out) HO9.out (fun i hi => by rw [hi]; exact HLM.out)))
            have G49 := Lib.hid (blk_lt HPB9.out)
            refine wpAnyH_ready (rs := [4, 6]) (by kernel_rfl) (by simp) ?_
            refine AllReadyH.cons (o := { dst := some 64, op := _, type := _, pos := _, after := _, guard := _ }) rfl (fun K hK => ?_) ?_
            next =>
              have q0 := cell_blk HPB9.out (j := 0) rfl
              go_simp
              clear q0
              refine hK.out _ _ ?hS33 (fun hHeld => ?_)
              case hS33 => exact hHeld
              clear hK K
              try simp only [Act.put, List.setIfInBounds_toArray, List.set_cons_zero, List.set_cons_succ]
              refine wpAnyH_ready (rs := [6]) (by kernel_rfl) (by simp) ?_
              refine AllReadyH.cons (o := { dst := some 66, op := _, type := _, pos := _, after := _, guard := _ }) rfl (fun K hK => ?_) AllReadyH.nil
              go_simp
              refine hK.out _ _ ?hS34 (fun hHeld => ?_)
              case hS34 => (refine ⟨?_, ?_, ?_, ?_⟩ <;> (apply pw_cell_below (below_alloc (Below.refl _ _) _); go_split_ands; assumption))
              clear hK K
              try simp only [Act.put, List.setIfInBounds_toArray, List.set_cons_zero, List.set_cons_succ]
              refine wpAnyH_ready (rs := [7]) (by kernel_rfl) (by simp) ?_
              refine AllReadyH.cons (o := { dst := some 67, op := _, type := _, pos := _, after := _, guard := _ }) rfl (fun K hK => ?_) AllReadyH.nil
              refine Kd.R_append_step kNd (w0 := w) w.heap.size rfl (.tmp 64) (.tmp 66) 22 34 (.agg #[.string ⟨#[]⟩, .int .i64 0, .slice none 0 0, .string ⟨#[]⟩]) 64 rfl Tryd.underlying22 (by kernel_rfl) rfl (show 0 < 4 by decide) (by decide) (.slice Av ns.length cv) ns x [.string x.f0, .int .i64 x.f1, .slice A7 x.f2.length c7, .string x.f3] (fun k => w.heap.size ≤ k ∧ k ≠ g4 ∧ k ≠ m) (fun k => w6.heap.size ≤ k) rfl rfl ?aP35 ?aD35 ?aF35 HRV9.out HBW9.out HBW9.out.size (by have := HLN.out; omega) ?_
              case aP35 => exact k34_mkM _ _ _ x (Kd.R_lower HR79.out HW.out.size)
              case aD35 => exact (fun k hk => by have h1 := HMP0.out.lt; have h2 := GZ.out; have h3 := SZ6.out; have h4 := G4.out; have h5 := HW.out.size; exact ⟨⟨by omega, by omega, by omega⟩, fun he => by have h6 := Kd.R_lt HRV0.out k he.symm; omega⟩)
              case aF35 => exact (fun k hk => by have h1 := HMP0.out.lt; have h4 := G4.out; have h5 := HW.out.size; have h7 := HB8.out.size; have h8 := SZ9.out; have hk : w9.heap.size ≤ k := hk; exact ⟨by omega, by omega, by omega⟩)
              intro v1 w10 hR10 hB10 hg10 hat10
              have HR10 := Lib.hid hR10; have HB10 := Lib.hid hB10; have SZ10 := Lib.hid (show w9.heap.size ≤ w10.heap.size from hg10.size)
              have HPB10 := Lib.hid ((only_grown hg10).blk (show w9.drew.heap[g4]? = _ from HPB9.out) (fun he => (HRV9.out.1 g4 he.symm).2.1 rfl))
              have HN10 := Lib.hid ((only_grown hg10).blk (show w9.drew.heap[wr.heap.size]? = _ from HN9.out) (fun he => by have h6 := Kd.R_lt HRV0.out _ he.symm; omega))
              have HM10 := Lib.hid (HM9.out.same (w1 := w10) ((hg10.block m (show m < w9.heap.size from HM9.out.lt) (fun he => (HRV9.out.1 m he.symm).2.2 rfl)).trans rfl))
              clear hR10 hB10 hg10 hat10
              refine hK.out _ _ ⟨cell_blk HN10.out (j := 0) rfl, cell_blk HN10.out (j := 1) rfl, cell_blk HN10.out (j := 2) rfl, cell_blk HN10.out (j := 3) rfl⟩ (fun hHeld => ?_)
              clear hK K
              try simp only [Act.put, List.setIfInBounds_toArray, List.set_cons_zero, List.set_cons_succ]
              refine wpAnyH_take (i := 8) (oi := { dst := some 68, op := _, type := _, pos := _, after := _, guard := _ }) (v := ?v36) rfl (by kernel_rfl) (by kernel_rfl) (by kernel_rfl) (fun _ _ _ h => h) (Or.inl ⟨by rfl, ?hy36⟩) (by assumption) ?r36
              case hy36 => (intro w hSw; (try dsimp only at hSw); first | (go_simp; done) | (go_simp; with_reducible rfl))
              try simp only [Act.put, List.setIfInBounds_toArray, List.set_cons_zero, List.set_cons_succ]
              refine wpAnyH_take (i := 9) (oi := { dst := some 69, op := _, type := _, pos := _, after := _, guard := _ }) (v := ?v37) rfl (by kernel_rfl) (by kernel_rfl) (by kernel_rfl) (fun _ _ _ h => h) (Or.inl ⟨by rfl, ?hy37⟩) (by assumption) ?r37
              case hy37 => (intro w hSw; (try dsimp only at hSw); first | (go_simp; done) | (go_simp; with_reducible rfl))
              try simp only [Act.put, List.setIfInBounds_toArray, List.set_cons_zero, List.set_cons_succ]
              obtain ⟨A10, c10, he10, _, _⟩ := Kd.R_reads HR10.out
              subst he10
              refine wpAnyH_ready (rs := [10]) (by kernel_rfl) (by simp) ?_
              refine AllReadyH.cons (o := { dst := none, op := _, type := _, pos := _, after := _, guard := _ }) rfl (fun K hK => ?_) AllReadyH.nil
              refine step_store_cell rfl rfl g4 0 (.slice A10 (ns ++ [x]).length c10) HPB10.out ?hst38 ?_
              case hst38 => (have f1 := cell_blk HPB10.out (j := 0) rfl; have f2 := blk_frozen HPB10.out 0; first | (go_simp; done) | (go_simp; rfl))
              intro w11 hb11 ho11
              have HB11 : Hid (w11.heap[g4]? = some (.cells #[.slice A10 (ns ++ [x]).length c10, .map (some m)] 53 (0, 0))) := hb11
              have HN11 := Lib.hid (ho11.blk HN10.out (by have := G4.out; omega))
              have HFN := Lib.hid (show FSat w11 w.heap.size g4 (ns ++ [x]) from ⟨_, m, HB11.out, Kd.R_step HR10.out (fun k hk hlt => ho11.block k hlt hk.2.1), HM10.out.only ho11 (fun h => HPM.out h.symm), HLO.out, HLM.out, HPM.out⟩)
              have HWN := Lib.hid (show Below w.heap.size w w11 from below_only HB10.out ho11 (fun i hi => by rw [hi]; exact HLO.out))
              refine hK.out _ _ ⟨cell_blk HN11.out (j := 0) rfl, cell_blk HN11.out (j := 1) rfl, cell_blk HN11.out (j := 2) rfl, cell_blk HN11.out (j := 3) rfl⟩ (fun hHeld2 => ?_)
              clear hK K
              try simp only [Act.put, List.setIfInBounds_toArray, List.set_cons_zero, List.set_cons_succ]
              refine wpAnyH_done (by kernel_rfl) ?_ _
              clear hHeld hHeld2 hb11 ho11
              go_wp2_with fail
              go_roundw
              case rel => exact ⟨k + 1, by omega, by go_num, by show FSat _ _ _ _; rw [HTK.out]; exact HFN.out, HWN.out, by show _ = _; rw [HTK.out]; exact HSN.out⟩
              case measure => simp [intOf]; omega
            next =>
              refine AllReadyH.cons (o := { dst := some 66, op := _, type := _, pos := _, after := _, guard := _ }) rfl (fun K hK => ?_) AllReadyH.nil
              go_simp
              refine hK.out _ _ ?hS39 (fun hHeld => ?_)
              case hS39 => (refine ⟨?_, ?_, ?_, ?_⟩ <;> (apply pw_cell_below (below_alloc (Below.refl _ _) _); go_split_ands; assumption))
              clear hK K
              try simp only [Act.put, List.setIfInBounds_toArray, List.set_cons_zero, List.set_cons_succ]
              refine wpAnyH_ready (rs := [4]) (by kernel_rfl) (by simp) ?_
              refine AllReadyH.cons (o := { dst := some 64, op := _, type := _, pos := _, after := _, guard := _ }) rfl (fun K hK => ?_) AllReadyH.nil
              have q0 := cell_blk HPB9.out (j := 0) rfl; have q9 := G49.out
              go_simp
              clear q0 q9
              refine hK.out _ _ ?hS40 (fun hHeld => ?_)
              case hS40 => exact hHeld
              clear hK K
              try simp only [Act.put, List.setIfInBounds_toArray, List.set_cons_zero, List.set_cons_succ]
              refine wpAnyH_ready (rs := [7]) (by kernel_rfl) (by simp) ?_
              refine AllReadyH.cons (o := { dst := some 67, op := _, type := _, pos := _, after := _, guard := _ }) rfl (fun K hK => ?_) AllReadyH.nil
              refine Kd.R_append_step kNd (w0 := w) w.heap.size rfl (.tmp 64) (.tmp 66) 22 34 (.agg #[.string ⟨#[]⟩, .int .i64 0, .slice none 0 0, .string ⟨#[]⟩]) 64 rfl Tryd.underlying22 (by kernel_rfl) rfl (show 0 < 4 by decide) (by decide) (.slice Av ns.length cv) ns x [.string x.f0, .int .i64 x.f1, .slice A7 x.f2.length c7, .string x.f3] (fun k => w.heap.size ≤ k ∧ k ≠ g4 ∧ k ≠ m) (fun k => w6.heap.size ≤ k) rfl rfl ?aP41 ?aD41 ?aF41 HRV9.out HBW9.out HBW9.out.size (by have := HLN.out; omega) ?_
              case aP41 => exact k34_mkM _ _ _ x (Kd.R_lower HR79.out HW.out.size)
              case aD41 => exact (fun k hk => by have h1 := HMP0.out.lt; have h2 := GZ.out; have h3 := SZ6.out; have h4 := G4.out; have h5 := HW.out.size; exact ⟨⟨by omega, by omega, by omega⟩, fun he => by have h6 := Kd.R_lt HRV0.out k he.symm; omega⟩)
              case aF41 => exact (fun k hk => by have h1 := HMP0.out.lt; have h4 := G4.out; have h5 := HW.out.size; have h7 := HB8.out.size; have h8 := SZ9.out; have hk : w9.heap.size ≤ k := hk; exact ⟨by omega, by omega, by omega⟩)
              intro v1 w10 hR10 hB10 hg10 hat10
              have HR10 := Lib.hid hR10; have HB10 := Lib.hid hB10; have SZ10 := Lib.hid (show w9.heap.size ≤ w10.heap.size from hg10.size)
              have HPB10 := Lib.hid ((only_grown hg10).blk (show w9.drew.heap[g4]? = _ from HPB9.out) (fun he => (HRV9.out.1 g4 he.symm).2.1 rfl))
              have HN10 := Lib.hid ((only_grown hg10).blk (show w9.drew.heap[wr.heap.size]? = _ from HN9.out) (fun he => by have h6 := Kd.R_lt HRV0.out _ he.symm; omega))
              have HM10 := Lib.hid (HM9.out.same (w1 := w10) ((hg10.block m (show m < w9.heap.size from HM9.out.lt) (fun he => (HRV9.out.1 m he.symm).2.2 rfl)).trans rfl))
              clear hR10 hB10 hg10 hat10
              refine hK.out _ _ ⟨cell_blk HN10.out (j := 0) rfl, cell_blk HN10.out (j := 1) rfl, cell_blk HN10.out (j := 2) rfl, cell_blk HN10.out (j := 3) rfl⟩ (fun hHeld => ?_)
              clear hK K
              try simp only [Act.put, List.setIfInBounds_toArray, List.set_cons_zero, List.set_cons_succ]
              refine wpAnyH_take (i := 8) (oi := { dst := some 68, op := _, type := _, pos := _, after := _, guard := _ }) (v := ?v42) rfl (by kernel_rfl) (by kernel_rfl) (by kernel_rfl) (fun _ _ _ h => h) (Or.inl ⟨by rfl, ?hy42⟩) (by assumption) ?r42
              case hy42 => (intro w hSw; (try dsimp only at hSw); first | (go_simp; done) | (go_simp; with_reducible rfl))
              try simp only [Act.put, List.setIfInBounds_toArray, List.set_cons_zero, List.set_cons_succ]
              refine wpAnyH_take (i := 9) (oi := { dst := some 69, op := _, type := _, pos := _, after := _, guard := _ }) (v := ?v43) rfl (by kernel_rfl) (by kernel_rfl) (by kernel_rfl) (fun _ _ _ h => h) (Or.inl ⟨by rfl, ?hy43⟩) (by assumption) ?r43
              case hy43 => (intro w hSw; (try dsimp only at hSw); first | (go_simp; done) | (go_simp; with_reducible rfl))
              try simp only [Act.put, List.setIfInBounds_toArray, List.set_cons_zero, List.set_cons_succ]
              obtain ⟨A10, c10, he10, _, _⟩ := Kd.R_reads HR10.out
              subst he10
              refine wpAnyH_ready (rs := [10]) (by kernel_rfl) (by simp) ?_
              refine AllReadyH.cons (o := { dst := none, op := _, type := _, pos := _, after := _, guard := _ }) rfl (fun K hK => ?_) AllReadyH.nil
              refine step_store_cell rfl rfl g4 0 (.slice A10 (ns ++ [x]).length c10) HPB10.out ?hst44 ?_
              case hst44 => (have f1 := cell_blk HPB10.out (j := 0) rfl; have f2 := blk_frozen HPB10.out 0; first | (go_simp; done) | (go_simp; rfl))
              intro w11 hb11 ho11
              have HB11 : Hid (w11.heap[g4]? = some (.cells #[.slice A10 (ns ++ [x]).length c10, .map (some m)] 53 (0, 0))) := hb11
              have HN11 := Lib.hid (ho11.blk HN10.out (by have := G4.out; omega))
              have HFN := Lib.hid (show FSat w11 w.heap.size g4 (ns ++ [x]) from ⟨_, m, HB11.out, Kd.R_step HR10.out (fun k hk hlt => ho11.block k hlt hk.2.1), HM10.out.only ho11 (fun h => HPM.out h.symm), HLO.out, HLM.out, HPM.out⟩)
              have HWN := Lib.hid (show Below w.heap.size w w11 from below_only HB10.out ho11 (fun i hi => by rw [hi]; exact HLO.out))
              refine hK.out _ _ ⟨cell_blk HN11.out (j := 0) rfl, cell_blk HN11.out (j := 1) rfl, cell_blk HN11.out (j := 2) rfl, cell_blk HN11.out (j := 3) rfl⟩ (fun hHeld2 => ?_)
              clear hK K
              try simp only [Act.put, List.setIfInBounds_toArray, List.set_cons_zero, List.set_cons_succ]
              refine wpAnyH_done (by kernel_rfl) ?_ _
              clear hHeld hHeld2 hb11 ho11
              go_wp2_with fail
              go_roundw
              case rel => exact ⟨k + 1, by omega, by go_num, by show FSat _ _ _ _; rw [HTK.out]; exact HFN.out, HWN.out, by show _ = _; rw [HTK.out]; exact HSN.out⟩
              case measure => simp [intOf]; omega
        · have HNZ := Lib.hid (show newB l = e0 by
              have h := HS.out; rw [HD.out, scan1_cons, if_neg (by rw [← HE0.out]; exact he), ← HE0.out] at h
              rw [HN.out, h, if_neg he])
          go_wp2_with (go_at_call 21; refine (as_int HE0.out.symm (fits_any x _ _ (HM.out.below (below_then HW.out HW.out.size (BA.out _))) (KX.out _ (BA.out _)) HZ0.out HZ3.out HZ2.out)).mono ?_; rintro e w5 ⟨rfl, hw5⟩; have HN5 := Lib.hid (blk_below (blk_new wr _) hw5); have HB5 := Lib.hid (below_then (BA.out _) (BA.out _).size hw5); clear hw5)
          go_ret2
          exact ⟨below_then HW.out HW.out.size HB5.out, .inr ⟨by rw [HNZ.out]; exact he, ret_ptr HNZ.out.symm⟩⟩
      · obtain rfl : k = l.length := by omega
        rw [List.take_length] at HF HS
        have HS0 := Lib.hid (show scan1 [root] l = 0 by rw [HS.out, List.drop_length]; rfl)
        obtain ⟨v, m, hpb, hRv, hMp, hlo, hlm, hpm⟩ := HF.out
        obtain ⟨g, cv, rfl, _, _, _⟩ := Kd.R_form hRv (by simp)
        have hcv := (Kd.R_reads' hRv).2.1
        have HC := Lib.hid (Kd.R_reads' hRv).2.2
        have HPB := Lib.hid hpb; have HMP := Lib.hid hMp
        have hl1 : (root :: l).length = l.length + 1 := rfl
        rw [hl1] at hcv HPB
        clear hpb hRv hMp hlo hlm hpm
        have d0 := cell_blk HPB.out (j := 0) rfl; have d1 := cell_blk HPB.out (j := 1) rfl
        obtain ⟨i0, hi0, hi4⟩ : ∃ i, Tryd.prog.info? 34 = some i ∧ i.size = 4 := by
          have h : (Tryd.prog.info? 34).map (·.size) = some 4 := by kernel_rfl
          exact Option.map_eq_some_iff.1 h
        obtain ⟨AT, hAT⟩ : ∃ AT, AT = (if cv = 1 then some (⟨g, 0, none⟩ : Addr) else (some (⟨g, 0, none⟩ : Addr)).map (·.add (1 * 4))) := ⟨_, rfl⟩
        have hcut := cut_from 22 34 .i64 Tryd.underlying22 hi0 4 hi4 (some ⟨g, 0, none⟩) (l.length + 1) cv 1 (by decide) (by omega)
        have HT := Lib.hid (show kNd.C wr AT l.length l by rw [hAT]; exact Kd.C_drop (m := 1) HC.out (by simp) hcv)
        have e1 : (1 : Int).toNat = 1 := rfl
        rw [e1, ← hAT, Nat.add_sub_cancel] at hcut
        have HSC := Lib.hid (show newB l = scan2 (root :: l) l by rw [HN.out, if_pos HS0.out])
        clear hAT hi0 hi4 e1
        go_wp2
        clear d0 d1 hcut
        generalize wr = wo at *
        go_loopw [77] (fun i wr => ∃ k : Nat, k ≤ l.length ∧ i = .int .i64 k ∧ Hid (Below wo.heap.size wo wr) ∧ Hid (newB l = scan2 (root :: l) (l.drop k))) (fun i _ => l.length - (intOf i).toNat)
        case atStart => exact ⟨0, Nat.zero_le _, rfl, Below.refl _ _, HSC.out⟩
        case round =>
          obtain ⟨k, hk2, rfl, HB, HS2⟩ := hrel
          by_cases hlt2 : k < l.length
          · obtain ⟨x, ad, A2, c2, rfl, hdrop, hxl, x0, x1, x2, x3, l2, g2⟩ := node_at (Kd.C_below HT.out HB.out) k hlt2
            obtain ⟨hz0, hz3, hz2⟩ := HZ.out x hxl
            have HD := Lib.hid hdrop
            have HPB2 := Lib.hid (blk_below HPB.out HB.out); have HMP2 := Lib.hid (HMP.out.below HB.out)
            have G4 := Lib.hid (blk_lt HPB2.out)
            have HUP := Lib.hid (fun w => up_any x.f0 w (by omega))
            obtain ⟨up, hup⟩ : ∃ up, up = upS x.f0 := ⟨_, rfl⟩
            have hus : up.size ≤ 1048577 := by rw [hup]; have := up_size x.f0; omega
            rw [← hup] at HUP
            obtain ⟨ix, hix⟩ : ∃ ix, ix = idxOf (root :: l) up := ⟨_, rfl⟩
            obtain ⟨iv, hiv⟩ : ∃ iv, iv = ix.getD 0 := ⟨_, rfl⟩
            obtain ⟨bv, hbv⟩ : ∃ bv, bv = ix.isSome := ⟨_, rfl⟩
            have HIX := Lib.hid hix; have HIV := Lib.hid hiv; have HBV := Lib.hid hbv
            have HU := Lib.hid hup; have HUS := Lib.hid hus
            have BA := Lib.hid (fun o : Obj => below_alloc (Below.refl wr.heap.size wr) o)
            clear hdrop hxl hz0 hz2 hz3 l2 g2 hup hix hus hiv hbv
            go_upto_region 20 with fail
            obtain ⟨w5, hw5⟩ : ∃ w5, w5 = wr.alloc (.cells #[.string x.f0, .int .i64 x.f1, .slice A2 x.f2.length c2, .string x.f3] 34) := ⟨_, rfl⟩
            have HN5 := Lib.hid (show w5.heap[wr.heap.size]? = some (.cells #[.string x.f0, .int .i64 x.f1, .slice A2 x.f2.length c2, .string x.f3] 34 (0, 0)) by rw [hw5]; exact blk_new _ _)
            have HB5 := Lib.hid (show Below wr.heap.size wr w5 by rw [hw5]; exact BA.out _)
            rw [← hw5]
            clear hw5 x0 x1 x2 x3
            have HPB5 := Lib.hid (blk_below HPB2.out HB5.out); have HMP5 := Lib.hid (HMP2.out.below HB5.out)
            have d1 := cell_blk HPB5.out (j := 1) rfl; have n0 := cell_blk HN5.out (j := 0) rfl
            have lookd : (Instr.lookup 51 (.map (some m)) (.string up) true).run Tryd.prog w5.drew = .ok (.tuple #[.int .i64 (iv : Nat), .bool bv]) w5.drew := by have h := (HMP5.out.same (w1 := w5.drew) rfl).look up (by have := HUS.out; omega); rw [← HIX.out, ← HIV.out, ← HBV.out] at h; exact h
            refine wp_region_held_drew (S := (fun w' => w'.cell? ⟨g4, 1, none⟩ = some (.map (some m)) ∧ w'.cell? ⟨wr.heap.size, 0, none⟩ = some (.string x.f0) ∧ (Instr.lookup 51 (.map (some m)) (.string up) true).run Tryd.prog w' = .ok (.tuple #[.int .i64 (iv : Nat), .bool bv]) w')) (by kernel_rfl) ?hS45 (fun hHeld => ?_)
            case hS45 => exact ⟨d1, n0, lookd⟩
            clear d1 n0 lookd
            refine wpAnyH_take (i := 0) (oi := { dst := some 82, op := _, type := _, pos := _, after := _, guard := _ }) (v := ?v46) rfl (by kernel_rfl) (by kernel_rfl) (by kernel_rfl) (fun _ _ _ h => h) (Or.inl ⟨by rfl, ?hy46⟩) (by assumption) ?r46
            case hy46 => (intro w hSw; (try dsimp only at hSw); first | (go_simp; done) | (go_simp; with_reducible rfl))
            try simp only [Act.put, List.setIfInBounds_toArray, List.set_cons_zero, List.set_cons_succ]
            refine wpAnyH_take (i := 1) (oi := { dst := some 83, op := _, type := _, pos := _, after := _, guard := _ }) (v := ?v47) rfl (by kernel_rfl) (by kernel_rfl) (by kernel_rfl) (fun _ _ _ h => h) (Or.inl ⟨by rfl, ?hy47⟩) (by assumption) ?r47
            case hy47 => (intro w hSw; (try dsimp only at hSw); first | (go_simp; done) | (go_simp; with_reducible rfl))
            try simp only [Act.put, List.setIfInBounds_toArray, List.set_cons_zero, List.set_cons_succ]
            refine wpAnyH_take (i := 2) (oi := { dst := some 84, op := _, type := _, pos := _, after := _, guard := _ }) (v := ?v48) rfl (by kernel_rfl) (by kernel_rfl) (by kernel_rfl) (fun _ _ _ h => h) (Or.inl ⟨by rfl, ?hy48⟩) (by assumption) ?r48
            case hy48 => (intro w hSw; (try dsimp only at hSw); first | (go_simp; done) | (go_simp; with_reducible rfl))
            try simp only [Act.put, List.setIfInBounds_toArray, List.set_cons_zero, List.set_cons_succ]
            refine wpAnyH_take (i := 3) (oi := { dst := some 85, op := _, type := _, pos := _, after := _, guard := _ }) (v := ?v49) rfl (by kernel_rfl) (by kernel_rfl) (by kernel_rfl) (fun _ _ _ h => h) (Or.inl ⟨by rfl, ?hy49⟩) (by assumption) ?r49
            case hy49 => (intro w hSw; (try dsimp only at hSw); first | (go_simp; done) | (go_simp; with_reducible rfl))
            try simp only [Act.put, List.setIfInBounds_toArray, List.set_cons_zero, List.set_cons_succ]
            refine wpAnyH_take (i := 4) (oi := { dst := some 86, op := _, type := _, pos := _, after := _, guard := _ }) (v := ?v50) rfl (by kernel_rfl) (by kernel_rfl) (by kernel_rfl) (fun _ _ _ h => h) (Or.inl ⟨by rfl, ?hy50⟩) (by assumption) ?r50
            case hy50 => (intro w hSw; (try dsimp only at hSw); first | (go_simp; done) | (go_simp; with_reducible rfl))
            try simp only [Act.put, List.setIfInBounds_toArray, List.set_cons_zero, List.set_cons_succ]
            refine wpAnyH_take (i := 5) (oi := { dst := some 87, op := _, type := _, pos := _, after := _, guard := _ }) (v := ?v51) rfl (by kernel_rfl) (by kernel_rfl) (by kernel_rfl) (fun _ _ _ h => h) (Or.inl ⟨by rfl, ?hy51⟩) (by assumption) ?r51
            case hy51 => (intro w hSw; (try dsimp only at hSw); first | (go_simp; done) | (go_simp; with_reducible rfl))
            try simp only [Act.put, List.setIfInBounds_toArray, List.set_cons_zero, List.set_cons_succ]
            refine wpAnyH_ready (rs := [6]) (by kernel_rfl) (by simp) ?_
            refine AllReadyH.cons (o := { dst := some 88, op := _, type := _, pos := _, after := _, guard := _ }) rfl (fun K hK => ?_) AllReadyH.nil
            (go_simp; refine (HUP.out _).mono ?_; rintro e w6 ⟨rfl, rfl⟩; try go_wp2_with fail)
            refine hK.out _ _ ?hS52 (fun hHeld => ?_)
            case hS52 => exact hHeld
            clear hK K
            try simp only [Act.put, List.setIfInBounds_toArray, List.set_cons_zero, List.set_cons_succ]
            refine wpAnyH_take (i := 7) (oi := { dst := some 89, op := _, type := _, pos := _, after := _, guard := _ }) (v := ?v53) rfl (by kernel_rfl) (by kernel_rfl) (by kernel_rfl) (fun _ _ _ h => h) (Or.inl ⟨by rfl, ?hy53⟩) (by assumption) ?r53
            case hy53 => (intro w hSw; (try dsimp only at hSw); first | (go_simp; done) | (go_simp; with_reducible rfl))
            try simp only [Act.put, List.setIfInBounds_toArray, List.set_cons_zero, List.set_cons_succ]
            refine wpAnyH_take (i := 8) (oi := { dst := some 81, op := _, type := _, pos := _, after := _, guard := _ }) (v := ?v54) rfl (by kernel_rfl) (by kernel_rfl) (by kernel_rfl) (fun _ _ _ h => h) (Or.inl ⟨by rfl, ?hy54⟩) (by assumption) ?r54
            case hy54 => (intro w hSw; (try dsimp only at hSw); first | (go_simp; done) | (go_simp; with_reducible rfl))
            try simp only [Act.put, List.setIfInBounds_toArray, List.set_cons_zero, List.set_cons_succ]
            refine wpAnyH_take (i := 9) (oi := { dst := some 90, op := _, type := _, pos := _, after := _, guard := _ }) (v := ?v55) rfl (by kernel_rfl) (by kernel_rfl) (by kernel_rfl) (fun _ _ _ h => h) (Or.inl ⟨by rfl, ?hy55⟩) (by assumption) ?r55
            case hy55 => (intro w hSw; (try dsimp only at hSw); first | (go_simp; done) | (go_simp; with_reducible rfl))
            try simp only [Act.put, List.setIfInBounds_toArray, List.set_cons_zero, List.set_cons_succ]
            refine wpAnyH_take (i := 10) (oi := { dst := some 91, op := _, type := _, pos := _, after := _, guard := _ }) (v := ?v56) rfl (by kernel_rfl) (by kernel_rfl) (by kernel_rfl) (fun _ _ _ h => h) (Or.inl ⟨by rfl, ?hy56⟩) (by assumption) ?r56
            case hy56 => (intro w hSw; (try dsimp only at hSw); first | (go_simp; done) | (go_simp; with_reducible rfl))
            try simp only [Act.put, List.setIfInBounds_toArray, List.set_cons_zero, List.set_cons_succ]
            refine wpAnyH_take (i := 11) (oi := { dst := some 12, op := _, type := _, pos := _, after := _, guard := _ }) (v := ?v57) rfl (by kernel_rfl) (by kernel_rfl) (by kernel_rfl) (fun _ _ _ h => h) (Or.inl ⟨by rfl, ?hy57⟩) (by assumption) ?r57
            case hy57 => (intro w hSw; (try dsimp only at hSw); first | (go_simp; done) | (go_simp; with_reducible rfl))
            try simp only [Act.put, List.setIfInBounds_toArray, List.set_cons_zero, List.set_cons_succ]
            refine wpAnyH_take (i := 12) (oi := { dst := some 13, op := _, type := _, pos := _, after := _, guard := _ }) (v := ?v58) rfl (by kernel_rfl) (by kernel_rfl) (by kernel_rfl) (fun _ _ _ h => h) (Or.inl ⟨by rfl, ?hy58⟩) (by assumption) ?r58
            case hy58 => (intro w hSw; (try dsimp only at hSw); first | (go_simp; done) | (go_simp; with_reducible rfl))
            try simp only [Act.put, List.setIfInBounds_toArray, List.set_cons_zero, List.set_cons_succ]
            refine wpAnyH_done (by kernel_rfl) ?_ _
            clear hHeld
            have HB6 := Lib.hid (below_drew1 HB5.out); have HPB6 : Hid (w5.drew.heap[g4]? = _) := HPB5.out
            clear HPB5 HMP5 HN5 HB5
            generalize w5.drew = w6 at *
            have d0 := cell_blk HPB6.out (j := 0) rfl
            cases bv with
            | false =>
              have HNI := Lib.hid (show idxOf (root :: l) up = none by rw [← HIX.out]; have := HBV.out; cases ix with | none => rfl | some i => cases this)
              have HZ0 := Lib.hid (show newB l = 62 by
                rw [HS2.out, HD.out, scan2_cons, if_neg (by unfold dirAt; rw [← HU.out, HNI.out]; simp)])
              go_wp2
              go_ret2
              exact ⟨below_then HW.out HW.out.size (below_then HB.out HB.out.size HB6.out), .inr ⟨by rw [HZ0.out]; decide, ret_ptr HZ0.out.symm⟩⟩
            | true =>
              obtain ⟨i, HSI⟩ : ∃ i, Hid (idxOf (root :: l) up = some i ∧ iv = i) := by
                cases ix with
                | none => exact absurd HBV.out (by decide)
                | some i => exact ⟨i, HIX.out.symm, HIV.out⟩
              obtain rfl : iv = i := HSI.out.2
              have hil : iv < l.length + 1 := idxOf_lt HSI.out.1
              obtain ⟨y, ay, B2, d2, hay, hyd, hyl, y0, y1, y2, y3, m2, q2⟩ := node_at (Kd.C_below HC.out (below_then HB.out HB.out.size HB6.out)) iv hil
              injection hay with hay
              subst hay
              have HY := Lib.hid (show (root :: l).getD iv root = y by rw [List.getD_eq_getElem?_getD]; have := congrArg List.head? hyd; rw [List.head?_drop] at this; rw [this]; rfl)
              rw [add_plain] at y1
              have hil2 : (iv : Int) < (l.length : Int) + 1 := by omega
              clear hyd hyl y0 y2 y3 m2 q2
              by_cases hk1 : y.f1 = 1
              · have HS3 := Lib.hid (show newB l = scan2 (root :: l) (l.drop (k + 1)) by rw [HS2.out, HD.out, scan2_cons, if_pos (by unfold dirAt; rw [← HU.out, HSI.out.1]; show decide (((root :: l).getD iv root).f1 = 1) = true; rw [HY.out]; simpa using hk1)])
                go_wp2
                go_roundw
                case rel => exact ⟨k + 1, by omega, by go_num, below_then HB.out HB.out.size HB6.out, HS3.out⟩
                case measure => simp [intOf]; omega
              · have HZ0 := Lib.hid (show newB l = 62 by rw [HS2.out, HD.out, scan2_cons, if_neg (by unfold dirAt; rw [← HU.out, HSI.out.1]; show ¬ decide (((root :: l).getD iv root).f1 = 1) = true; rw [HY.out]; simpa using hk1)])
                go_wp2
                go_ret2
                exact ⟨below_then HW.out HW.out.size (below_then HB.out HB.out.size HB6.out), .inr ⟨by rw [HZ0.out]; decide, ret_ptr HZ0.out.symm⟩⟩
          · have HZ0 := Lib.hid (show newB l = 0 by rw [HS2.out, List.drop_of_length_le (by omega)]; rfl)
            go_wp2
            go_ret2
            exact ⟨below_then HW.out HW.out.size HB.out, .inl ⟨HZ0.out, g4, rfl, HF.out.below HB.out⟩⟩

end Go.Proofs.YtlkacodngjdagaaDoor.Vfs
