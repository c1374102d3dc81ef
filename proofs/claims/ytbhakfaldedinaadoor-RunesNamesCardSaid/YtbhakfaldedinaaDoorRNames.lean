/- The law RunesNames. -/
import Derived.Test.YtbhakfaldedinaaDoorRAwake
namespace Go.Proofs.YtbhakfaldedinaaDoor
set_option linter.unusedVariables false
set_option linter.unusedSimpArgs false
open Go.RowKit Go.Proofs.YtbhakfaldedinaaDoorW.PrintWords

def yesL : List ByteArray := [⟨#[97, 98, 99, 100, 101, 102, 103, 104, 105, 106, 107, 108, 109, 110, 111, 112, 113, 114, 115, 116]⟩, ⟨#[95]⟩, ⟨#[206, 187]⟩, ⟨#[195, 191, 49]⟩, ⟨#[103, 114, 195, 182, 195, 159, 101]⟩, ⟨#[90, 57, 95]⟩]
def noL : List ByteArray := [⟨#[]⟩, ⟨#[97, 98, 99, 100, 101, 102, 103, 104, 105, 106, 107, 108, 109, 110, 111, 112, 113, 114, 115, 116, 117]⟩, ⟨#[57]⟩, ⟨#[97, 32, 98]⟩, ⟨#[97, 45, 98]⟩, ⟨#[195, 151]⟩, ⟨#[195, 183]⟩, ⟨#[206, 162]⟩, ⟨#[97, 255]⟩, ⟨#[114, 101, 115, 101, 114, 118, 101, 100]⟩]
theorem yes_cell (w : World) (i : Nat) (h : i < 6) : (w.alloc (.cells (yesL.map Value.string).toArray 28)).cell? ⟨w.heap.size, i, none⟩ = some (.string (yesL.getD i ByteArray.empty)) := by
  rw [cell_of_row _ _ i _ 28 (0, 0) (heap_alloc_new w _)]
  have hl : i < yesL.length := h
  simp [List.getElem?_eq_getElem hl, List.getD_eq_getElem?_getD]
theorem no_cell (w : World) (i : Nat) (h : i < 10) : (w.alloc (.cells (noL.map Value.string).toArray 29)).cell? ⟨w.heap.size, i, none⟩ = some (.string (noL.getD i ByteArray.empty)) := by
  rw [cell_of_row _ _ i _ 29 (0, 0) (heap_alloc_new w _)]
  have hl : i < noL.length := h
  simp [List.getElem?_eq_getElem hl, List.getD_eq_getElem?_getD]
theorem yes_each : ∀ i, i < 6 → nameG (yesL.getD i ByteArray.empty) = true ∧ (yesL.getD i ByteArray.empty).size ≤ 30 := by decide +kernel
theorem no_each : ∀ i, i < 10 → nameG (noL.getD i ByteArray.empty) = false ∧ (noL.getD i ByteArray.empty).size ≤ 30 := by decide +kernel
theorem lit_cut : (⟨#[206, 187, 207, 140, 206, 179, 206, 191, 207, 130]⟩ : ByteArray).extract 0 2 = ⟨#[206, 187]⟩ := by decide +kernel
theorem lit_cat : (⟨#[97, 98, 99, 100, 101, 102, 103, 104, 105, 106, 107, 108, 109, 110, 111, 112, 113, 114, 115, 116]⟩ : ByteArray) ++ (⟨#[117]⟩ : ByteArray) = ⟨#[97, 98, 99, 100, 101, 102, 103, 104, 105, 106, 107, 108, 109, 110, 111, 112, 113, 114, 115, 116, 117]⟩ := by decide +kernel

set_option maxRecDepth 100000 in
set_option maxHeartbeats 1000000 in
theorem runesnames_walk (w : World) (hT : Tabs w) :
    Calls Tryd.prog 6 #[] w fun e w' => e = .returned (.bool true) ∧ Below w.heap.size w w' := by
  have HT := Aside0.mk hT
  clear hT
  have hcut := lit_cut
  have hcat := lit_cat
  go_enter Tryd.func6, Tryd.ntmps6
  go_wp2_with fail
  clear hcut hcat
  change Code.wp _ _ _ _ ((w.alloc (.cells (yesL.map Value.string).toArray 28)).alloc (.cells (noL.map Value.string).toArray 29))
  have HB := Aside0.mk (show Below w.heap.size w ((w.alloc (.cells (yesL.map Value.string).toArray 28)).alloc (.cells (noL.map Value.string).toArray 29)) from ((Below.refl _ _).alloc (Nat.le_refl _) _).alloc (by simp) _)
  have HC := Aside0.mk (fun i hi => pw_cell_below ((Below.refl _ (w.alloc (.cells (yesL.map Value.string).toArray 28))).alloc (Nat.le_refl _) (.cells (noL.map Value.string).toArray 29)) (yes_cell w i hi))
  have HD := Aside0.mk (no_cell (w.alloc (.cells (yesL.map Value.string).toArray 28)))
  have hsz : (w.alloc (.cells (yesL.map Value.string).toArray 28)).heap.size = w.heap.size + 1 := by simp
  rw [hsz] at HD
  have hLT : w.heap.size + 1 < ((w.alloc (.cells (yesL.map Value.string).toArray 28)).alloc (.cells (noL.map Value.string).toArray 29)).heap.size := by simp
  clear hsz
  obtain ⟨w1, hw1⟩ : ∃ w1, (w.alloc (.cells (yesL.map Value.string).toArray 28)).alloc (.cells (noL.map Value.string).toArray 29) = w1 := ⟨_, rfl⟩
  rw [hw1] at HB HC HD hLT ⊢
  clear hw1
  have HLT := Aside0.mk hLT
  clear hLT
  go_loopw [4] (fun u wr => ∃ i : Nat, u = .int .i64 (i : Int) ∧ i ≤ 6 ∧ Aside0 (Below w1.heap.size w1 wr)) (fun u _ => 6 - (intOf u).toNat)
  case atStart => exact ⟨0, rfl, by omega, ⟨Below.refl _ _⟩⟩
  case round =>
    obtain ⟨i, rfl, hi, HBr⟩ := hrel
    by_cases hlt : i < 6
    · have hcell := pw_cell_below HBr.out (HC.out i hlt)
      obtain ⟨f1, f2⟩ := yes_each i hlt
      obtain ⟨s, hs⟩ : ∃ s, yesL.getD i ByteArray.empty = s := ⟨_, rfl⟩
      rw [hs] at hcell f1 f2
      have F1 := Aside0.mk f1
      clear f1 hs
      go_wp2_with fail
      refine (name_any s _ (by omega) (tabs_below HT.out (HB.out.trans (HBr.out.mono HB.out.size))) true F1).mono ?_
      rintro e w2 ⟨rfl, hB2⟩
      have HB2 := Aside0.mk (HBr.out.trans (hB2.mono HBr.out.size))
      clear hB2
      go_wp2
      go_roundw
      case rel => exact ⟨i + 1, by go_num, by omega, HB2⟩
      case measure => simp [intOf]; omega
    · go_wp2_with fail
      go_loopw [5] (fun u wr => ∃ i : Nat, u = .int .i64 (i : Int) ∧ i ≤ 10 ∧ Aside0 (Below w1.heap.size w1 wr)) (fun u _ => 10 - (intOf u).toNat)
      case atStart => exact ⟨0, rfl, by omega, HBr⟩
      case round =>
        obtain ⟨j, rfl, hj, HBs⟩ := hrel
        by_cases hlt2 : j < 10
        · have hcell := pw_cell_below HBs.out (HD.out j hlt2)
          obtain ⟨f1, f2⟩ := no_each j hlt2
          obtain ⟨s, hs⟩ : ∃ s, noL.getD j ByteArray.empty = s := ⟨_, rfl⟩
          rw [hs] at hcell f1 f2
          have F1 := Aside0.mk f1
          clear f1 hs
          go_wp2_with fail
          refine (name_any s _ (by omega) (tabs_below HT.out (HB.out.trans (HBs.out.mono HB.out.size))) false F1).mono ?_
          rintro e w2 ⟨rfl, hB2⟩
          have HB2 := Aside0.mk (HBs.out.trans (hB2.mono HBs.out.size))
          clear hB2
          go_wp2
          go_roundw
          case rel => exact ⟨j + 1, by go_num, by omega, HB2⟩
          case measure => simp [intOf]; omega
        · have HB9 := Aside0.mk (HB.out.trans (HBs.out.mono HB.out.size))
          go_wp2_with fail
          refine (awake_any _ (tabs_below HT.out HB9.out)).mono ?_
          rintro e w3 ⟨rfl, hB3⟩
          have HB3 := Aside0.mk (HB9.out.trans (hB3.mono HB9.out.size))
          clear hB3
          go_wp2
          go_ret
          exact ⟨rfl, HB3.out⟩
end Go.Proofs.YtbhakfaldedinaaDoor
