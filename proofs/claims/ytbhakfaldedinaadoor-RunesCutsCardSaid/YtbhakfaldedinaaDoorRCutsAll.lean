/- The law RunesCuts, any text. -/
import Derived.Test.YtbhakfaldedinaaDoorRCuts
namespace Go.Proofs.YtbhakfaldedinaaDoor
set_option linter.unusedVariables false
set_option linter.unusedSimpArgs false
open Go.RowKit Go.Proofs.YtbhakfaldedinaaDoorW.PrintWords

set_option maxRecDepth 100000 in
set_option maxHeartbeats 1000000 in
theorem runescuts_walk (s : ByteArray) (a : Int) (w : World) (hs : s.size ≤ 140737488351232) (ha : -9223372036854775808 ≤ a ∧ a ≤ 9223372036854775807) (hT : Tabs w) :
    Calls Tryd.prog 5 #[.string s, .int .i64 a] w fun e w' => e = .returned (.bool true) ∧ Below w.heap.size w w' := by
  by_cases h1 : 500 < s.size
  · have HT := Aside0.mk hT
    clear hT
    have h500 : decide (500 < s.size) = true := decide_eq_true h1
    have h500i : decide ((500 : Int) < (s.size : Int)) = true := decide_eq_true (by omega)
    go_enter Tryd.func5, Tryd.ntmps5
    go_wp2_with fail
    refine (awake_any _ HT.out).mono ?_
    rintro e w1 ⟨rfl, hB1⟩
    have HB1 := Aside0.mk hB1
    clear hB1
    go_wp2
    go_ret
    exact ⟨rfl, HB1.out⟩
  · cases hl : runesG s with
    | none =>
      have HT := Aside0.mk hT
      clear hT
      have hv : Aside0 (validG s = false) := ⟨by rw [validG_runes, hl]; rfl⟩
      have h500 : decide (500 < s.size) = false := decide_eq_false h1
      have h500i : decide ((500 : Int) < (s.size : Int)) = false := decide_eq_false (by omega)
      clear hl
      go_enter Tryd.func5, Tryd.ntmps5
      go_wp2_with fail
      refine (valid_any s _ (by omega) HT.out false hv).mono ?_
      rintro e w1 ⟨rfl, hB1⟩
      have HB1 := Aside0.mk hB1
      clear hB1
      go_wp2_with fail
      refine (awake_any _ (tabs_below HT.out HB1.out)).mono ?_
      rintro e w2 ⟨rfl, hB2⟩
      have HB2 := Aside0.mk (HB1.out.trans (hB2.mono HB1.out.size))
      clear hB2
      go_wp2
      go_ret
      exact ⟨rfl, HB2.out⟩
    | some l =>
      by_cases h0 : s.size = 0
      · have HT := Aside0.mk hT
        clear hT
        have hv : Aside0 (validG s = true) := ⟨by rw [validG_runes, hl]; rfl⟩
        have h500 : decide (500 < s.size) = false := decide_eq_false h1
        have h500i : decide ((500 : Int) < (s.size : Int)) = false := decide_eq_false (by omega)
        have hz : ((s.size : Int) == 0) = true := beq_iff_eq.2 (by omega)
        clear hl
        go_enter Tryd.func5, Tryd.ntmps5
        go_wp2_with fail
        refine (valid_any s _ (by omega) HT.out true hv).mono ?_
        rintro e w1 ⟨rfl, hB1⟩
        have HB1 := Aside0.mk hB1
        clear hB1
        go_wp2_with fail
        refine (awake_any _ (tabs_below HT.out HB1.out)).mono ?_
        rintro e w2 ⟨rfl, hB2⟩
        have HB2 := Aside0.mk (HB1.out.trans (hB2.mono HB1.out.size))
        clear hB2
        go_wp2
        go_ret
        exact ⟨rfl, HB2.out⟩
      · exact runescuts_run s a w (by omega) h0 ha l ⟨hl⟩ hT
end Go.Proofs.YtbhakfaldedinaaDoor
