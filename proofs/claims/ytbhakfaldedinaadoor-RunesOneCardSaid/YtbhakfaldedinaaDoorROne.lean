/- The law RunesOne. -/
import Derived.Test.YtbhakfaldedinaaDoorRPut
import Derived.Test.YtbhakfaldedinaaDoorRAwake
import Derived.Test.YtbhakfaldedinaaDoorRRefLetter
namespace Go.Proofs.YtbhakfaldedinaaDoor
set_option linter.unusedVariables false
set_option linter.unusedSimpArgs false
open Go.RowKit Go.Proofs.YtbhakfaldedinaaDoorW.PrintWords

set_option maxRecDepth 100000 in
theorem runesone_walk (r : Int) (w : World) (hb : -2147483648 ≤ r ∧ r ≤ 2147483647) (hT : Tabs w) :
    Calls Tryd.prog 8 #[.int .i32 r] w fun e w' => e = .returned (.bool true) ∧ Below w.heap.size w w' := by
  have HT := Aside0.mk hT
  have HR := Aside0.mk hb
  clear hT hb
  obtain ⟨s, HS⟩ : ∃ s, Aside0 (putS r = s) := ⟨_, ⟨rfl⟩⟩
  obtain ⟨v1, H1⟩ : ∃ v, Aside0 (letterF r = v) := ⟨_, ⟨rfl⟩⟩
  obtain ⟨v2, H2⟩ : ∃ v, Aside0 (digitF r = v) := ⟨_, ⟨rfl⟩⟩
  have hbb : (v1 == v1) = true := by cases v1 <;> rfl
  have hbb2 : (v2 == v2) = true := by cases v2 <;> rfl
  go_enter Tryd.func8, Tryd.ntmps8
  go_wp2_with fail
  refine (put_any r _ HR.out).mono ?_
  rintro e w1 ⟨rfl, rfl⟩
  rw [HS.out]
  go_wp2_with fail
  refine (rput_any r _ HR.out).mono ?_
  rintro e w2 ⟨rfl, hB2⟩
  have HB2 := Aside0.mk hB2
  clear hB2
  rw [HS.out]
  go_wp2_with fail
  refine (letter_any r _ v1 H1).mono ?_
  rintro e w3 ⟨rfl, rfl⟩
  go_wp2_with fail
  refine (rletter_any r _ v1 H1).mono ?_
  rintro e w4 ⟨rfl, rfl⟩
  go_wp2_with fail
  refine (digit_any r _ v2 H2).mono ?_
  rintro e w5 ⟨rfl, rfl⟩
  go_wp2_with fail
  refine (rdigit_any r _ v2 H2).mono ?_
  rintro e w6 ⟨rfl, rfl⟩
  go_wp2_with fail
  refine (awake_any _ (tabs_below HT.out HB2.out)).mono ?_
  rintro e w7 ⟨rfl, hB7⟩
  have HB7 := Aside0.mk (HB2.out.trans (hB7.mono HB2.out.size))
  clear hB7
  go_wp2
  go_ret
  exact ⟨rfl, HB7.out⟩
end Go.Proofs.YtbhakfaldedinaaDoor
