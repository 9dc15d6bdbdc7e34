/- PolicyMore's walk, from an argument as it is read. -/
import Derived.Test.YtdecagihihohkaaDoorLawMore
namespace Go.Proofs.YtdecagihihohkaaDoor.L20
open Go Go.RowKit Go.Proofs.YtdecagihihohkaaDoorW.PrintWords Go.Proofs.YtdecagihihohkaaDoor.Kinds Go.Proofs.YtdecagihihohkaaDoor.Str Go.Proofs.YtdecagihihohkaaDoor.Ev Go.Proofs.YtdecagihihohkaaDoor.Frame
set_option linter.unusedVariables false

theorem str_mem {l : List ByteArray} {n : Nat} (h : sumOf Arg.str.bulk l ≤ n) : (∀ x ∈ l, x.size ≤ n) ∧ l.length ≤ n := by
  refine ⟨fun x hx => ?_, Nat.le_trans (sumOf_length _ (fun x => by simp [Arg.str]) l) h⟩
  have h1 := sumOf_mem Arg.str.bulk hx
  simp only [Arg.str] at h1 h
  omega

theorem ask_bounds (a : S30) (h : a30.bulk a ≤ 1048576) :
    a.f3.size ≤ 1048576 ∧ a.f4.size ≤ 1048576 ∧ a.f5.size ≤ 1048576 ∧ a.f1.f4.size ≤ 1048576 ∧ ((∀ x ∈ a.f0.f3, x.size ≤ 1048576) ∧ a.f0.f3.length ≤ 1048576) ∧ ((∀ x ∈ a.f0.f4, x.size ≤ 1048576) ∧ a.f0.f4.length ≤ 1048576) ∧ ((∀ x ∈ a.f0.f5, x.size ≤ 1048576) ∧ a.f0.f5.length ≤ 1048576)
      ∧ sumOf a32.bulk a.f0.f6 ≤ 1048576 := by
  have e : a30.bulk a = (Arg.str.bulk a.f0.f0 + (1 + (1 + ((sumOf Arg.str.bulk a.f0.f3 + 1) + ((sumOf Arg.str.bulk a.f0.f4 + 1) + ((sumOf Arg.str.bulk a.f0.f5 + 1) + (sumOf a32.bulk a.f0.f6 + 1))))))) + ((1 + (1 + ((sumOf Arg.str.bulk a.f1.f2 + 1) + (1 + (Arg.str.bulk a.f1.f4 + (1 + 1)))))) + (1 + (Arg.str.bulk a.f3 + (Arg.str.bulk a.f4 + Arg.str.bulk a.f5)))) := rfl
  rw [e] at h
  have s1 : Arg.str.bulk a.f3 = a.f3.size + 1 := rfl
  have s2 : Arg.str.bulk a.f4 = a.f4.size + 1 := rfl
  have s3 : Arg.str.bulk a.f5 = a.f5.size + 1 := rfl
  have s4 : Arg.str.bulk a.f1.f4 = a.f1.f4.size + 1 := rfl
  exact ⟨by omega, by omega, by omega, by omega, str_mem (by omega), str_mem (by omega), str_mem (by omega), by omega⟩

theorem policyMore_law (W : World) (hM : Mx W) (a : S30) (C : Array Value) (K : a30.kd.K W a (Value.agg C).cells.toList) (_f0 : a30.wf a) (dir : ByteArray) (_f1 : Arg.str.wf dir) (permitted : Bool) (_f2 : Arg.bool.wf permitted)
    (hb : a30.bulk a + Arg.str.bulk dir ≤ 1048576) :
    Calls Tryd.prog 4 #[.agg C, .string dir, .bool permitted] W fun e w' => e = .returned (.bool true) ∧ Below W.heap.size W w' := by
  obtain ⟨spl, rl, hC, hsp, ⟨stl, rl2, rfl, hst, ⟨l3, r3, rfl, hl3, ⟨l4, r4, rfl, hl4, ⟨l5, r5, rfl, hl5, hr5⟩⟩⟩⟩⟩ := K
  have hl3 : l3 = [.bool a.f2] := hl3
  have hl4 : l4 = [.string a.f3] := hl4
  have hl5 : l5 = [.string a.f4] := hl5
  have hr5 : r5 = [.string a.f5] := hr5
  have hC : C.toList = spl ++ (stl ++ (l3 ++ (l4 ++ (l5 ++ r5)))) := hC
  subst hl3 hl4 hl5 hr5
  have hs : Arg.str.bulk dir = dir.size + 1 := rfl
  obtain ⟨b1, b2, b3, b4, ⟨b5, b6⟩, ⟨b7, b8⟩, _⟩ := ask_bounds a (by omega)
  exact more_walk a a.f2 rfl spl.toArray stl.toArray C dir permitted W hM hC hsp hst (by omega) (by omega) (fun x hx => by have := b5 x hx; omega) (fun x hx => by have := b7 x hx; omega) (by omega) b6 b8

end Go.Proofs.YtdecagihihohkaaDoor.L20
