/- Open: the file to which a path leads, its bytes; Len; what is too much to be asked. -/
import Derived.Test.YtlkacodngjdagaaDoorRes
namespace Go.Proofs.YtlkacodngjdagaaDoor.Vfs
open Go Go.Maps Go.WideMaps Go.RowKit Go.Proofs.YtlkacodngjdagaaDoorW.PrintWords Go.Proofs.YtlkacodngjdagaaDoor.Kinds Go.Proofs.YtlkacodngjdagaaDoor.Str Go.Proofs.YtlkacodngjdagaaDoor.Ev Go.Proofs.YtlkacodngjdagaaDoor.Frame
set_option linter.unusedVariables false

theorem results_tmp4 {fn : Func} {t u v x : Tmp} (h : fn.results = #[.tmp t, .tmp u, .tmp v, .tmp x]) (tmps : Array Value) (P : Program) (w : World) :
    (results fn tmps).run P w = .ok (.tuple #[tmps.getD t undef, tmps.getD u undef, tmps.getD v undef, tmps.getD x undef]) w := by
  simp [results, h]
def SomeBool (w : World) (e : Ending) (w' : World) : Prop := ∃ b, e = .returned (.bool b) ∧ w' = w
theorem resB_lt (ns : List Nd) (hne : 0 < ns.length) : ∀ (dir : ByteArray) (rest : List ByteArray) (hops : Nat), (resB ns dir rest hops).1 < ns.length := by
  intro dir rest hops
  induction dir, rest, hops using resB.induct ns with
  | case1 dir hops =>
    rw [resB_nil]
    cases h : idxOf ns dir with
    | none => exact hne
    | some i => exact idxOf_lt h
  | case2 dir hops name r h ih => rw [resB_cons, if_pos h]; exact ih
  | case3 dir hops name r h h1 h2 ih => rw [resB_cons, if_neg h, if_pos h1, if_pos h2]; exact ih
  | case4 dir hops name r h h1 h2 =>
    rw [resB_cons, if_neg h, if_pos h1, if_neg h2]
    exact idxOf_lt (stepB_done ns dir (belowB dir name) r hops (by simpa using h2))
  | case5 dir hops name r h h1 => rw [resB_cons, if_neg h, if_neg h1]; exact hne
theorem resolveB_lt (ns : List Nd) (hne : 0 < ns.length) (p : ByteArray) : (resolveB ns p).1 < ns.length := by
  unfold resolveB
  split
  · exact resB_lt ns hne _ _ _
  · exact hne

def openB (ns : List Nd) (p : ByteArray) : Nat × ByteArray × List Int × Int :=
  if (resolveB ns p).2.2 = 0 then (if (ns.getD (resolveB ns p).1 root).f1 = 2 then ((resolveB ns p).1, (resolveB ns p).2.1, (ns.getD (resolveB ns p).1 root).f2, 0) else (0, ⟨#[]⟩, [], 66)) else (0, ⟨#[]⟩, [], (resolveB ns p).2.2)
def OpenPost (w : World) (r : Nat × ByteArray × List Int × Int) (e : Ending) (w' : World) : Prop :=
  ∃ v, e = .returned (.tuple #[.int .i64 r.1, .string r.2.1, v, .int .i64 r.2.2.2]) ∧ (Kd.int .u8).R 5 w' w.heap.size (fun k => w.heap.size ≤ k) v r.2.2.1 ∧ Below w.heap.size w w'

set_option maxRecDepth 100000 in
set_option maxHeartbeats 4000000 in
theorem open_any (lo hi f : Nat) (ns : List Nd) (hW : Fit ns) (p : ByteArray) (w : World) (hm : Mx w) (hF : FSR w lo hi f ns) (hhi : hi ≤ w.heap.size) (hp : p.size ≤ 1048576) (hne : 0 < ns.length) (hdt : ∀ x ∈ ns, x.f2.length ≤ 1048577) :
    Calls Tryd.prog 12 #[.pointer (some ⟨f, 0, none⟩), .string p] w (OpenPost w (openB ns p)) := by
  have HF := Lib.hid hF
  have HRS := Lib.hid (resolve_any lo hi f ns hW p w hm hF hhi hp)
  have HLT := Lib.hid (resolveB_lt ns hne p)
  have HO := Lib.hid (show openB ns p = if (resolveB ns p).2.2 = 0 then (if (ns.getD (resolveB ns p).1 root).f1 = 2 then ((resolveB ns p).1, (resolveB ns p).2.1, (ns.getD (resolveB ns p).1 root).f2, 0) else (0, ⟨#[]⟩, [], 66)) else (0, ⟨#[]⟩, [], (resolveB ns p).2.2) from rfl)
  have HDT := Lib.hid hdt
  obtain ⟨r, hr⟩ : ∃ r, r = resolveB ns p := ⟨_, rfl⟩
  rw [← hr] at HRS HLT HO
  clear hr hF hm hW hhi hp hne hdt
  obtain ⟨ri, rs, re⟩ := r
  have hu := Tryd.underlying34
  have hu2 := Tryd.underlying53
  by_cases h0 : re = 0
  · subst h0
    have RES := HRS
    by_cases hk : (ns.getD ri root).f1 = 2
    · have HO2 := Lib.hid (show openB ns p = (ri, rs, (ns.getD ri root).f2, 0) by rw [HO.out, if_pos rfl, if_pos hk])
      have HK0 := Lib.hid hk
      clear hk
      go_enter Tryd.func12, Tryd.ntmps12
      go_wp2_with (first
        | (go_at_call 10; refine HRS.out.mono ?_; rintro e w1 ⟨rfl, hw1⟩; have HB1 := Lib.hid hw1; (obtain ⟨An, cn, m, hpf, hcn, hcN, hmp⟩ := (HF.out.below hw1).read); (obtain ⟨y, ay, B2, d2, rfl, hyd, hyl, y0, y1, y2, y3, m2, q2⟩ := node_at hcN ri HLT.out); have f0 := cell_blk hpf (j := 0) rfl; have HY := Lib.hid (show ns.getD ri root = y by rw [List.getD_eq_getElem?_getD]; have := congrArg List.head? hyd; rw [List.head?_drop] at this; rw [this]; rfl); have hk' : y.f1 = 2 := ((congrArg (·.f1) HY.out).symm.trans HK0.out); have HQ2 := Lib.hid q2; have HYL := Lib.hid (HDT.out y hyl); have hil2 : (ri : Int) < (ns.length : Int) := (by have := HLT.out; omega); clear hw1 hpf hcn hcN hmp hyd hyl y0 y3 m2 q2)
        | (at_builtin; refine Kd.R_append_row (Value.int .u8) 0 (w0 := w) w.heap.size rfl _ _ 32 5 (.int .u8 0) 1 rfl Tryd.underlying32 (by kernel_rfl) rfl (by decide) (.slice none 0 0) [] y.f2 B2 y.f2.length d2 (fun k => w.heap.size ≤ k) rfl rfl (fun _ hk => Nat.le_trans HB1.out.size hk) (Kd.R_nil _ _ _ _ _) HQ2.out HB1.out HB1.out.size (by have := HYL.out; simp; omega) ?_; intro v7 w7 hR7 hB7 hg7 hat7; have HR7 := Lib.hid hR7; have HB7 := Lib.hid hB7; clear hR7 hB7 hg7 hat7))
      (try simp only [Exit.inBlock, Exit.then]); refine bodyPost_ret (results_tmp4 rfl _ _ _) rfl ?_
      rw [HO2.out]
      exact ⟨v7, rfl, by show Kd.R _ _ _ _ _ _ _; rw [HY.out]; exact HR7.out, HB7.out⟩
    · have HO2 := Lib.hid (show openB ns p = (0, ⟨#[]⟩, [], 66) by rw [HO.out, if_pos rfl, if_neg hk])
      have HK0 := Lib.hid hk
      clear hk
      go_enter Tryd.func12, Tryd.ntmps12
      go_wp2_with (go_at_call 10; refine HRS.out.mono ?_; rintro e w1 ⟨rfl, hw1⟩; have HB1 := Lib.hid hw1; (obtain ⟨An, cn, m, hpf, hcn, hcN, hmp⟩ := (HF.out.below hw1).read); (obtain ⟨y, ay, B2, d2, rfl, hyd, hyl, y0, y1, y2, y3, m2, q2⟩ := node_at hcN ri HLT.out); have f0 := cell_blk hpf (j := 0) rfl; have HY := Lib.hid (show ns.getD ri root = y by rw [List.getD_eq_getElem?_getD]; have := congrArg List.head? hyd; rw [List.head?_drop] at this; rw [this]; rfl); have hk' : ¬ y.f1 = 2 := (fun h => HK0.out ((congrArg (·.f1) HY.out).trans h)); have HQ2 := Lib.hid q2; have HYL := Lib.hid (HDT.out y hyl); have hil2 : (ri : Int) < (ns.length : Int) := (by have := HLT.out; omega); clear hw1 hpf hcn hcN hmp hyd hyl y0 y3 m2 q2)
      (try simp only [Exit.inBlock, Exit.then]); refine bodyPost_ret (results_tmp4 rfl _ _ _) rfl ?_
      rw [HO2.out]
      exact ⟨_, rfl, Kd.R_nil _ _ _ _ _, HB1.out⟩
  · have HO2 := Lib.hid (show openB ns p = (0, ⟨#[]⟩, [], re) by rw [HO.out, if_neg h0])
    go_enter Tryd.func12, Tryd.ntmps12
    go_wp2_with (go_at_call 10; refine HRS.out.mono ?_; rintro e w1 ⟨rfl, hw1⟩; have HB1 := Lib.hid hw1; clear hw1)
    (try simp only [Exit.inBlock, Exit.then]); refine bodyPost_ret (results_tmp4 rfl _ _ _) rfl ?_
    rw [HO2.out]
    exact ⟨_, rfl, Kd.R_nil _ _ _ _ _, HB1.out⟩

set_option maxHeartbeats 1000000 in
theorem len_any (lo hi f : Nat) (ns : List Nd) (w : World) (hF : FSR w lo hi f ns) :
    Calls Tryd.prog 20 #[.pointer (some ⟨f, 0, none⟩)] w fun e w' => e = .returned (.int .i64 (ns.length : Nat)) ∧ w' = w := by
  obtain ⟨An, cn, m, hpf, hcn, hcN, hmp⟩ := hF.read
  have f0 := cell_blk hpf (j := 0) rfl
  clear hF hpf hcn hcN hmp
  go_enter Tryd.func20, Tryd.ntmps20
  go_wp2
  go_ret
  exact ⟨rfl, rfl⟩

set_option maxRecDepth 100000 in
set_option maxHeartbeats 4000000 in
theorem great_any (A : Option Addr) (c : Nat) (l : List Nd) (w : World) (hr : kNd.C w A l.length l) :
    Calls Tryd.prog 7 #[.slice A l.length c] w (SomeBool w) := by
  have HR := Lib.hid hr
  have hlen : l.length ≤ 9223372036854775807 := hr.2.1
  have hu := Tryd.underlying34
  clear hr
  go_enter Tryd.func7, Tryd.ntmps7
  go_wp2
  go_loop [4, 3] (fun i al => ∃ k : Nat, k ≤ l.length ∧ i = .int .i64 k ∧ ∃ z : Int, al = .int .i64 z) (fun i _ => l.length - (intOf i).toNat)
  case atStart => exact ⟨0, Nat.zero_le _, rfl, 0, rfl⟩
  case round =>
    obtain ⟨k, hk, rfl, z, rfl⟩ := hrel
    by_cases hlt : k < l.length
    · obtain ⟨x, ad, A2, c2, rfl, hdrop, hxl, x0, x1, x2, x3, l2, g2⟩ := node_at HR.out k hlt
      clear hdrop hxl l2 g2
      go_wp2
      all_goals first | (go_ret; exact ⟨_, rfl, rfl⟩) | (go_round; (case rel => exact ⟨k + 1, by omega, by go_num, _, rfl⟩); (case measure => simp [intOf]; omega))
    · go_wp2
      go_ret
      exact ⟨_, rfl, rfl⟩

end Go.Proofs.YtlkacodngjdagaaDoor.Vfs
