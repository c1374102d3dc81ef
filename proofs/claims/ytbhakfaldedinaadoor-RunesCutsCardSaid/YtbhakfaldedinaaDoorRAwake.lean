/- awake of layer 1; the law RunesNext. -/
import Derived.Test.YtbhakfaldedinaaDoorRName
import Derived.Test.YtbhakfaldedinaaDoorRRefWalk
namespace Go.Proofs.YtbhakfaldedinaaDoor
set_option linter.unusedVariables false
set_option linter.unusedSimpArgs false
open Go.RowKit Go.Proofs.YtbhakfaldedinaaDoorW.PrintWords

set_option maxRecDepth 100000 in
theorem awake_any (w : World) (hT : Tabs w) :
    Calls Tryd.prog 13 #[] w fun e w' => e = .returned (.bool true) ∧ Below w.heap.size w w' := by
  have HT := Aside0.mk hT
  clear hT
  go_enter Tryd.func13, Tryd.ntmps13
  go_wp2_with fail
  refine (name_any _ _ (by decide) HT.out true ⟨by decide +kernel⟩).mono ?_
  rintro e w1 ⟨rfl, hB1⟩
  have HB1 := Aside0.mk hB1
  clear hB1
  go_wp2_with fail
  refine (name_any _ _ (by decide) (tabs_below HT.out HB1.out) false ⟨by decide +kernel⟩).mono ?_
  rintro e w2 ⟨rfl, hB2⟩
  have HB2 := Aside0.mk (HB1.out.trans (hB2.mono HB1.out.size))
  clear hB2
  go_wp2_with fail
  refine (name_any _ _ (by decide) (tabs_below HT.out HB2.out) false ⟨by decide +kernel⟩).mono ?_
  rintro e w3 ⟨rfl, hB3⟩
  have HB3 := Aside0.mk (HB2.out.trans (hB3.mono HB2.out.size))
  clear hB3
  go_wp2_with fail
  refine (count_any _ _ (by decide) (tabs_below HT.out HB3.out) 5 ⟨by decide +kernel⟩).mono ?_
  rintro e w4 ⟨rfl, hB4⟩
  have HB4 := Aside0.mk (HB3.out.trans (hB4.mono HB3.out.size))
  clear hB4
  go_wp2
  go_ret
  exact ⟨rfl, HB4.out⟩

theorem runesnext_walk (s : ByteArray) (a : Int) (w : World) (hs : s.size ≤ 140737488351232) (ha : -9223372036854775808 ≤ a ∧ a ≤ 9223372036854775807) (hT : Tabs w) :
    Calls Tryd.prog 3 #[.string s, .int .i64 a] w fun e w' => e = .returned (.bool true) ∧ Below w.heap.size w w' := by
  have HT := Aside0.mk hT
  clear hT
  obtain ⟨r, n, ok, hG⟩ : ∃ r n ok, nextG s a = (r, n, ok) := ⟨_, _, _, rfl⟩
  have HG := Aside0.mk hG
  clear hG ha
  go_enter Tryd.func3, Tryd.ntmps3
  go_wp2_with fail
  refine (next_at s a _ (by omega) HT.out r n ok HG).mono ?_
  rintro e w1 ⟨rfl, hB1⟩
  have HB1 := Aside0.mk hB1
  clear hB1
  go_wp2_with fail
  refine (rnext_at s a _ (by omega) r n ok HG).mono ?_
  rintro e w2 ⟨rfl, rfl⟩
  go_wp2_with fail
  refine (awake_any _ (tabs_below HT.out HB1.out)).mono ?_
  rintro e w3 ⟨rfl, hB3⟩
  have HB3 := Aside0.mk (HB1.out.trans (hB3.mono HB1.out.size))
  clear hB3
  go_wp2
  go_ret
  exact ⟨rfl, HB3.out⟩
end Go.Proofs.YtbhakfaldedinaaDoor
