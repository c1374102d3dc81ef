/- awake of layer 2. -/
import Derived.Test.YtachnjiielfddaaVZig
namespace Go.Proofs.Ytachnjiielfddaa
set_option linter.unusedVariables false
set_option linter.unusedSimpArgs false
open Go.RowKit Go.Proofs.YtachnjiielfddaaW.PrintWords

theorem awake_any (w : World) :
    Calls Try.prog 11 #[] w fun e w' => e = .returned (.bool true) ∧ Below w.heap.size w w' := by
  go_enter Try.func11, Try.ntmps11
  go_wp2_with fail
  refine (vput_new none 0 [] 300 _ (nilReads _ _) (by decide) (by decide) (by decide)).mono ?_
  rintro e w' ⟨v', zs, rfl, hz, ho, hb⟩
  have hs := str_own ho.out
  have hk : strOfNums zs = (⟨#[172, 2]⟩ : ByteArray) := by rw [hz.out]; decide +kernel
  rw [hk] at hs
  clear hk
  go_wp2_with fail
  refine (vzig_any (-1) _ (by decide) (by decide)).mono ?_
  rw [show zigF (-1) = 1 from by decide]
  rintro e w' ⟨rfl, rfl⟩
  go_wp2
  go_ret
  exact ⟨rfl, hb.out⟩
end Go.Proofs.Ytachnjiielfddaa
