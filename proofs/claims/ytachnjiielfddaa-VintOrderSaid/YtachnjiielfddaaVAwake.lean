/- awake of layer 2. -/
import Derived.Test.YtachnjiielfddaaVZig
namespace Go.Proofs.Ytachnjiielfddaa
open Go.RowKit Go.Proofs.YtachnjiielfddaaW.PrintWords

/-- string(b), b the call's own. -/
theorem str_own {w : World} {base n : Nat} {v : Value} {xs : List Int} (h : w.ownsRow base 5 1 v n (nums .u8 xs)) : (convert 27 9 v).run Try.prog w = .ok (.string (strOfNums xs)) w :=
  own_string Try.underlying27 Try.underlying5 Try.underlying9 h

theorem nilReads (w : World) (k : IntKind) : ReadsInt w k none ([] : List Int).length [] := ⟨rfl, by decide, fun h => absurd h (by decide)⟩

theorem awake_any (w : World) :
    Calls Try.prog 11 #[] w fun e w' => e = .returned (.bool true) ∧ Below w.heap.size w w' := by
  go_enter Try.func11, Try.ntmps11
  go_wp2_with fail
  refine (vput_new none 0 [] 300 _ (nilReads _ _) (by decide) (by decide) (by decide)).mono ?_
  rintro e w' ⟨v', zs, rfl, hz, ho, hb⟩
  have hs := str_own ho.out
  have hk : strOfNums zs = (⟨#[172, 2]⟩ : ByteArray) := by rw [hz.out]; decide +kernel
  rw [hk] at hs
  clear hk
  go_wp2_with fail
  refine (vzig_any (-1) _ (by decide) (by decide)).mono ?_
  rw [show zigF (-1) = 1 from by decide]
  rintro e w' ⟨rfl, rfl⟩
  go_wp2
  go_ret
  exact ⟨rfl, hb.out⟩
end Go.Proofs.Ytachnjiielfddaa
