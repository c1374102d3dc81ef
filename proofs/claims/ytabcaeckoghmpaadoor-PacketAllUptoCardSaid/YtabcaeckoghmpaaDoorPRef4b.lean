/- Four bytes, and their number. -/
import Derived.Test.YtabcaeckoghmpaaDoorPRef4
import Derived.Test.YtabcaeckoghmpaaDoorPkPure
namespace Go.Proofs.YtabcaeckoghmpaaDoor
set_option linter.unusedVariables false
set_option linter.unusedSimpArgs false
open Go.RowKit Go.Proofs.YtabcaeckoghmpaaDoorW.PrintWords

theorem le4_four (bs : List Int) (hw : ∀ x ∈ bs, 0 ≤ x ∧ x ≤ 255) (a s : Nat) (ha : a + 4 ≤ bs.length) (hs : s < 4294967296) : le4 s = (bs.drop a).take 4 ↔ s = fourN bs a := by
  have hg : ∀ j, 0 ≤ bs.getD j 0 ∧ bs.getD j 0 ≤ 255 := fun j => by
    have h := rd_byte bs hw j
    simp only [rd, Int.toNat_natCast] at h
    exact h
  have e : (bs.drop a).take 4 = [bs.getD a 0, bs.getD (a + 1) 0, bs.getD (a + 2) 0, bs.getD (a + 3) 0] := by
    apply List.ext_getElem
    · simp; omega
    · intro i h1 h2
      simp only [List.length_cons, List.length_nil] at h2
      have h3 : (bs.drop a).take 4 = (bs.drop a).take 4 := rfl
      rw [List.getElem_take, List.getElem_drop]
      have hi : i = 0 ∨ i = 1 ∨ i = 2 ∨ i = 3 := by omega
      rcases hi with rfl | rfl | rfl | rfl <;> simp [List.getD_eq_getElem?_getD, List.getElem?_eq_getElem (show a + 3 < bs.length by omega), List.getElem?_eq_getElem (show a + 2 < bs.length by omega), List.getElem?_eq_getElem (show a + 1 < bs.length by omega), List.getElem?_eq_getElem (show a < bs.length by omega)]
  rw [e, le4, fourN]
  have g0 := hg a
  have g1 := hg (a + 1)
  have g2 := hg (a + 2)
  have g3 := hg (a + 3)
  generalize bs.getD a 0 = y0 at *
  generalize bs.getD (a + 1) 0 = y1 at *
  generalize bs.getD (a + 2) 0 = y2 at *
  generalize bs.getD (a + 3) 0 = y3 at *
  simp only [List.cons.injEq, and_true]
  omega
theorem fourN_lt (bs : List Int) (hw : ∀ x ∈ bs, 0 ≤ x ∧ x ≤ 255) (a : Nat) : fourN bs a < 4294967296 := by
  have hg : ∀ j, 0 ≤ bs.getD j 0 ∧ bs.getD j 0 ≤ 255 := fun j => by
    have h := rd_byte bs hw j
    simp only [rd, Int.toNat_natCast] at h
    exact h
  have g0 := hg a
  have g1 := hg (a + 1)
  have g2 := hg (a + 2)
  have g3 := hg (a + 3)
  unfold fourN
  omega
end Go.Proofs.YtabcaeckoghmpaaDoor
