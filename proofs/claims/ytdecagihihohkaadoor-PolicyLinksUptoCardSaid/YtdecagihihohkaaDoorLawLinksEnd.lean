/- PolicyLinks' walk, from an argument as it is read. -/
import Derived.Test.YtdecagihihohkaaDoorLawLinks
namespace Go.Proofs.YtdecagihihohkaaDoor.L20
open Go Go.RowKit Go.Proofs.YtdecagihihohkaaDoorW.PrintWords Go.Proofs.YtdecagihihohkaaDoor.Kinds Go.Proofs.YtdecagihihohkaaDoor.Str Go.Proofs.YtdecagihihohkaaDoor.Ev Go.Proofs.YtdecagihihohkaaDoor.Frame
set_option linter.unusedVariables false

theorem links_bound (a : S30) (h : a30.bulk a ≤ 1048576) : a.f0.f6.length ≤ 1048576 := by
  have e : a30.bulk a = (Arg.str.bulk a.f0.f0 + (1 + (1 + ((sumOf Arg.str.bulk a.f0.f3 + 1) + ((sumOf Arg.str.bulk a.f0.f4 + 1) + ((sumOf Arg.str.bulk a.f0.f5 + 1) + (sumOf a32.bulk a.f0.f6 + 1))))))) + ((1 + (1 + ((sumOf Arg.str.bulk a.f1.f2 + 1) + (1 + (Arg.str.bulk a.f1.f4 + (1 + 1)))))) + (1 + (Arg.str.bulk a.f3 + (Arg.str.bulk a.f4 + Arg.str.bulk a.f5)))) := rfl
  rw [e] at h
  have h2 := sumOf_length a32.bulk (fun x => by
    have e : a32.bulk x = Arg.str.bulk x.f0 + ((sumOf Arg.str.bulk x.f1 + 1) + 1) := rfl
    rw [e]
    omega) a.f0.f6
  omega

theorem policyLinks_law (W : World) (hM : Mx W) (a : S30) (C : Array Value) (K : a30.kd.K W a (Value.agg C).cells.toList) (_f0 : a30.wf a) (l : S32) (L : Array Value) (KL : a32.kd.K W l (Value.agg L).cells.toList) (_f1 : a32.wf l)
    (hb : a30.bulk a ≤ 1048576) :
    Calls Tryd.prog 3 #[.agg C, .agg L] W fun e w' => e = .returned (.bool true) ∧ Below W.heap.size W w' := by
  obtain ⟨spl, rl, hC, hsp, ⟨stl, rl2, rfl, hst, ⟨l3, r3, rfl, hl3, ⟨l4, r4, rfl, hl4, ⟨l5, r5, rfl, hl5, hr5⟩⟩⟩⟩⟩ := K
  have hl3 : l3 = [.bool a.f2] := hl3
  have hl4 : l4 = [.string a.f3] := hl4
  have hl5 : l5 = [.string a.f4] := hl5
  have hr5 : r5 = [.string a.f5] := hr5
  have hC : C.toList = spl ++ (stl ++ (l3 ++ (l4 ++ (l5 ++ r5)))) := hC
  subst hl3 hl4 hl5 hr5
  exact links_walk a a.f2 rfl spl.toArray stl.toArray C l L W hM hC hsp hst KL (links_bound a hb)

end Go.Proofs.YtdecagihihohkaaDoor.L20
