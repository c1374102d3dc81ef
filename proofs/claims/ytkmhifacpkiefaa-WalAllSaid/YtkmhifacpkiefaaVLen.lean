/- vint.Len. -/
import Derived.Test.YtkmhifacpkiefaaVGet
namespace Go.Proofs.Ytkmhifacpkiefaa
set_option linter.unusedVariables false
set_option linter.unusedSimpArgs false
open Go.RowKit Go.Proofs.YtkmhifacpkiefaaW.PrintWords

theorem vlen_new (v : Int) (w : World) (h0 : 0 ≤ v) (h1 : v < 18446744073709551616) :
    Calls Try.prog 30 #[.int .u64 v] w fun e w' => ∃ n : Nat, e = .returned (.int .i64 n) ∧ Aside0 (n = (enc 10 v.toNat).length) ∧ Aside0 (Below w.heap.size w w') := by
  have H0 := Aside0.mk h0
  have H1 := Aside0.mk h1
  clear h0 h1
  go_enter Try.func30, Try.ntmps30
  go_wp2_with fail
  refine (vput_int none 0 [] v _ (nilReads _ _) (by decide) H0.out H1.out (by decide)).mono ?_
  rintro e w1 ⟨v', zs, rfl, hz, ho, hb⟩
  obtain ⟨A, c, rfl, hr⟩ := own_reads ho.out
  go_wp2
  go_ret
  exact ⟨zs.length, rfl, ⟨by rw [hz.out]; rfl⟩, hb⟩
end Go.Proofs.Ytkmhifacpkiefaa
