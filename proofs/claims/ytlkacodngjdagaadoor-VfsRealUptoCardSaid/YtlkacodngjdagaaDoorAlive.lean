/- The chapter's examples of vfs. -/
import Derived.Test.YtlkacodngjdagaaDoorOpen
import Derived.Lib.SlBytesConst
namespace Go.Proofs.YtlkacodngjdagaaDoor.Vfs
open Go Go.Maps Go.WideMaps Go.RowKit Go.Proofs.YtlkacodngjdagaaDoorW.PrintWords Go.Proofs.YtlkacodngjdagaaDoor.Kinds Go.Proofs.YtlkacodngjdagaaDoor.Str Go.Proofs.YtlkacodngjdagaaDoor.Ev Go.Proofs.YtlkacodngjdagaaDoor.Frame
set_option linter.unusedVariables false

def L3 : List Nd := [⟨⟨#[47, 108, 105, 98]⟩, 1, [], ⟨#[]⟩⟩, ⟨⟨#[47, 108, 105, 98, 47, 97, 46, 115, 111]⟩, 2, [120], ⟨#[]⟩⟩, ⟨⟨#[47, 108]⟩, 3, [], ⟨#[108, 105, 98]⟩⟩]
theorem newB_L3 : newB L3 = 0 := by decide +kernel
theorem small_L3 : Small L3 := by
  intro x hx
  simp only [L3, List.mem_cons, List.mem_nil_iff, or_false] at hx
  rcases hx with rfl | rfl | rfl <;> exact ⟨by decide, by decide, by decide⟩
theorem fit_L3 : Fit (root :: L3) := by
  intro x hx
  simp only [L3, root, List.mem_cons, List.mem_nil_iff, or_false] at hx
  rcases hx with rfl | rfl | rfl | rfl <;> exact ⟨by decide, by decide, by decide⟩
def resF (ns : List Nd) : Nat → ByteArray → List ByteArray → Nat → Option (Nat × ByteArray × Int)
  | 0, _, _, _ => none
  | _ + 1, dir, [], _ => some ((idxOf ns dir).getD 0, dir, 0)
  | n + 1, dir, name :: r, hops =>
    if name.toList = [46, 46] then resF ns n (upS dir) r hops
    else if (stepB ns dir (belowB dir name) r hops).1.2.2 = 0 then
      (if (stepB ns dir (belowB dir name) r hops).1.2.1 = false then
        resF ns n (stepB ns dir (belowB dir name) r hops).2.1 (stepB ns dir (belowB dir name) r hops).2.2.1 (stepB ns dir (belowB dir name) r hops).2.2.2
      else some ((stepB ns dir (belowB dir name) r hops).1.1, (ns.getD (stepB ns dir (belowB dir name) r hops).1.1 root).f0, 0))
    else some (0, ⟨#[]⟩, (stepB ns dir (belowB dir name) r hops).1.2.2)
theorem resF_resB (ns : List Nd) : ∀ (n : Nat) (dir : ByteArray) (rest : List ByteArray) (hops : Nat) (x : Nat × ByteArray × Int), resF ns n dir rest hops = some x → resB ns dir rest hops = x := by
  intro n
  induction n with
  | zero => intro dir rest hops x h; cases h
  | succ n ih =>
    intro dir rest hops x h
    cases rest with
    | nil => rw [resB_nil]; exact Option.some.inj h
    | cons name r =>
      rw [resB_cons]
      unfold resF at h
      split
      · rename_i h1; rw [if_pos h1] at h; exact ih _ _ _ _ h
      · rename_i h1
        rw [if_neg h1] at h
        split
        · rename_i h2
          rw [if_pos h2] at h
          split
          · rename_i h3; rw [if_pos h3] at h; exact ih _ _ _ _ h
          · rename_i h3; rw [if_neg h3] at h; exact Option.some.inj h
        · rename_i h2
          rw [if_neg h2] at h
          exact Option.some.inj h
theorem res1 : resolveB (root :: L3) ⟨#[47, 108, 47, 46, 46, 47, 108, 105, 98, 47, 47, 97, 46, 115, 111]⟩ = (2, ⟨#[47, 108, 105, 98, 47, 97, 46, 115, 111]⟩, 0) := by
  unfold resolveB
  rw [if_pos (by decide +kernel)]
  exact resF_resB _ 20 _ _ _ _ (by decide +kernel)
theorem res2 : resolveB (root :: L3) ⟨#[47, 108, 105, 98, 47, 98]⟩ = (0, ⟨#[]⟩, 63) := by
  unfold resolveB
  rw [if_pos (by decide +kernel)]
  exact resF_resB _ 20 _ _ _ _ (by decide +kernel)
theorem open1 : openB (root :: L3) ⟨#[47, 108, 47, 46, 46, 47, 108, 105, 98, 47, 47, 97, 46, 115, 111]⟩ = (2, ⟨#[47, 108, 105, 98, 47, 97, 46, 115, 111]⟩, [120], 0) := by
  unfold openB
  rw [res1]
  rfl

def rowCells (a : Addr) : List Value := [.string ⟨#[47, 108, 105, 98]⟩, .int .i64 1, .slice none 0 0, .string ⟨#[]⟩, .string ⟨#[47, 108, 105, 98, 47, 97, 46, 115, 111]⟩, .int .i64 2, .slice (some a) 1 1, .string ⟨#[]⟩, .string ⟨#[47, 108]⟩, .int .i64 3, .slice none 0 0, .string ⟨#[108, 105, 98]⟩]
theorem row_L3 {w : World} {g : Nat} {a : Addr} {t : TypeId} {fr : Nat × Nat} (hb : w.heap[g]? = some (.cells (rowCells a).toArray t fr)) (hd : (Kd.int .u8).C w (some a) 1 [120]) : kNd.C w (some ⟨g, 0, none⟩) 3 L3 := by
  refine ⟨rfl, by decide, fun _ => ⟨_, rfl, fun j x hj => ?_⟩⟩
  have hcell : ∀ (j : Nat) (c : List Value), (∀ i u, c[i]? = some u → (rowCells a)[j * 4 + i]? = some u) → ∀ i u, c[i]? = some u → w.cell? ((⟨g, 0, none⟩ : Addr).add (j * kNd.sz + i)) = some u := by
    intro j c hc i u hu
    rw [add_plain]
    exact cell_blk hb (by have := hc i u hu; show (rowCells a).toArray[j * 4 + i]? = some u; simpa using this)
  match j, hj with
  | 0, hj =>
    obtain rfl : _ = x := Option.some.inj hj
    refine ⟨_, rfl, k34_mk w _ (Nat.le_refl _) (Kd.C_nil _ _), hcell 0 _ (fun i u hu => ?_)⟩
    match i, hu with
    | 0, hu => exact hu
    | 1, hu => exact hu
    | 2, hu => exact hu
    | 3, hu => exact hu
  | 1, hj =>
    obtain rfl : _ = x := Option.some.inj hj
    refine ⟨_, rfl, k34_mk w _ (Nat.le_refl _) hd, hcell 1 _ (fun i u hu => ?_)⟩
    match i, hu with
    | 0, hu => exact hu
    | 1, hu => exact hu
    | 2, hu => exact hu
    | 3, hu => exact hu
  | 2, hj =>
    obtain rfl : _ = x := Option.some.inj hj
    refine ⟨_, rfl, k34_mk w _ (Nat.le_refl _) (Kd.C_nil _ _), hcell 2 _ (fun i u hu => ?_)⟩
    match i, hu with
    | 0, hu => exact hu
    | 1, hu => exact hu
    | 2, hu => exact hu
    | 3, hu => exact hu

theorem two_at (w : World) (o1 o2 : Obj) : ((w.alloc o1).alloc o2).heap[w.heap.size + 1]? = some o2 := by
  show ((w.heap.push o1).push o2)[w.heap.size + 1]? = some o2
  rw [Array.getElem?_push, if_pos (by simp)]
theorem dat_L3 : ∀ x ∈ root :: L3, x.f2.length ≤ 1048577 := by
  intro x hx
  simp only [L3, root, List.mem_cons, List.mem_nil_iff, or_false] at hx
  rcases hx with rfl | rfl | rfl | rfl <;> decide
set_option maxRecDepth 100000 in
set_option maxHeartbeats 4000000 in
theorem alive_any (w : World) (hm : Mx w) : Calls Tryd.prog 9 #[] w fun e w' => e = .returned (.bool true) ∧ Below w.heap.size w w' := by
  have hu := Tryd.underlying34
  have HM := Lib.hid hm
  have kc := Lib.run_convert_bytes_const w 32 5 #[.int .u8 120] 1 1 Tryd.underlying32 Tryd.underlying5
  go_enter Tryd.func9, Tryd.ntmps9
  go_wp2_with fail
  clear kc hm
  refine (new_any (some ⟨w.heap.size + 1, 0, none⟩) 3 L3 _ (HM.out.below (below_alloc (below_alloc (Below.refl _ _) _) _)) (row_L3 (a := ⟨w.heap.size, 0, none⟩) (t := 34) (fr := (0, 0)) ?h1 ?h2) small_L3 (by decide)).mono ?_
  case h1 => exact two_at w _ _
  case h2 =>
    refine ⟨rfl, by decide, fun _ => ⟨_, rfl, fun j x hj => ?_⟩⟩
    match j, hj with
    | 0, hj =>
      obtain rfl : (120 : Int) = x := Option.some.inj hj
      refine ⟨[.int .u8 120], rfl, rfl, fun i u hu => ?_⟩
      match i, hu with
      | 0, hu =>
        obtain rfl : Value.int .u8 120 = u := Option.some.inj hu
        rw [add_plain]
        exact cell_blk (blk_below (blk_new w _) (below_alloc (Below.refl _ _) _)) rfl
  rintro e w3 ⟨hB3, h3⟩
  have HB3 := Lib.hid (show Below w.heap.size w w3 from below_then (below_alloc (below_alloc (Below.refl _ _) _) _) (below_alloc (below_alloc (Below.refl w.heap.size w) _) _).size hB3)
  clear hB3
  rcases h3 with ⟨_, q, rfl, hF⟩ | ⟨h, _⟩
  · have HF := Lib.hid hF.fsr
    clear hF
    go_wp2_with fail
    have ho := open_any _ _ q (root :: L3) fit_L3 ⟨#[47, 108, 47, 46, 46, 47, 108, 105, 98, 47, 47, 97, 46, 115, 111]⟩ w3 (HM.out.below HB3.out) HF.out (Nat.le_refl _) (by decide) (by decide) dat_L3
    rw [open1] at ho
    refine ho.mono ?_
    clear ho
    rintro e w4 ⟨v, rfl, hR4, hB4⟩
    obtain ⟨A4, c4, rfl, hc4, hC4⟩ := Kd.R_reads hR4
    have HB4 := Lib.hid hB4; have HC4 := Lib.hid hC4
    clear hB4 hR4 hc4 hC4
    go_wp2_with fail
    have hr := resolve_any _ _ q (root :: L3) fit_L3 ⟨#[47, 108, 105, 98, 47, 98]⟩ w4 (HM.out.below (below_then HB3.out HB3.out.size HB4.out)) (HF.out.below HB4.out) HB4.out.size (by decide)
    rw [res2] at hr
    refine hr.mono ?_
    clear hr
    rintro e w5 ⟨rfl, hB5⟩
    have HB5 := Lib.hid hB5
    clear hB5
    have kc2 : (convert 32 9 (.slice A4 1 c4)).run Tryd.prog w5 = .ok (.string ⟨#[120]⟩) w5 := Kd.C_string (xs := [120]) Tryd.underlying32 Tryd.underlying5 Tryd.underlying9 (Kd.C_below HC4.out HB5.out)
    go_wp2_with (go_at_call 20; refine (as_int (show (((root :: L3).length : Nat) : Int) = 4 from rfl) (len_any _ _ q (root :: L3) _ ((HF.out.below HB4.out).below HB5.out))).mono ?_; rintro e w6 ⟨rfl, rfl⟩)
    go_ret
    exact ⟨rfl, below_then HB3.out HB3.out.size (below_then HB4.out HB4.out.size HB5.out)⟩
  · exact absurd newB_L3 h

end Go.Proofs.YtlkacodngjdagaaDoor.Vfs
