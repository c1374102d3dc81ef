/- The law RunesKeys. -/
import Derived.Test.YtbhakfaldedinaaDoorRAwake
namespace Go.Proofs.YtbhakfaldedinaaDoor
set_option linter.unusedVariables false
set_option linter.unusedSimpArgs false
open Go.RowKit Go.Proofs.YtbhakfaldedinaaDoorW.PrintWords

def keysL : List ByteArray := [⟨#[115, 99, 104, 101, 109, 97]⟩,
  ⟨#[109, 101, 115, 115, 97, 103, 101]⟩,
  ⟨#[101, 110, 117, 109]⟩,
  ⟨#[99, 97, 108, 108]⟩,
  ⟨#[114, 101, 116, 117, 114, 110, 115]⟩,
  ⟨#[114, 101, 115, 101, 114, 118, 101, 100]⟩,
  ⟨#[111, 112, 116, 105, 111, 110, 97, 108]⟩,
  ⟨#[114, 101, 112, 101, 97, 116, 101, 100]⟩,
  ⟨#[105, 110, 116, 51, 50]⟩,
  ⟨#[105, 110, 116, 54, 52]⟩,
  ⟨#[98, 111, 111, 108]⟩,
  ⟨#[116, 101, 120, 116]⟩,
  ⟨#[98, 121, 116, 101, 115]⟩]
def esS : ByteArray := ⟨#[115]⟩
theorem keys_cell (w : World) (i : Nat) (h : i < 13) : (w.alloc (.cells (keysL.map Value.string).toArray 30)).cell? ⟨w.heap.size, i, none⟩ = some (.string (keysL.getD i ByteArray.empty)) := by
  rw [cell_of_row _ _ i _ 30 (0, 0) (heap_alloc_new w _)]
  have hl : i < keysL.length := h
  simp [List.getElem?_eq_getElem hl, List.getD_eq_getElem?_getD]
theorem keys_each : ∀ i, i < 13 → keyF (keysL.getD i ByteArray.empty) = true ∧ nameG (keysL.getD i ByteArray.empty) = false ∧ keyF (keysL.getD i ByteArray.empty ++ esS) = false ∧ nameG (keysL.getD i ByteArray.empty ++ esS) = true ∧
    keyF ((keysL.getD i ByteArray.empty).extract 1 (keysL.getD i ByteArray.empty).size) = false ∧ 1 ≤ (keysL.getD i ByteArray.empty).size ∧ (keysL.getD i ByteArray.empty).size ≤ 8 ∧ (keysL.getD i ByteArray.empty ++ esS).size ≤ 9 := by decide +kernel

set_option maxRecDepth 100000 in
set_option maxHeartbeats 1000000 in
theorem runeskeys_walk (w : World) (hT : Tabs w) :
    Calls Tryd.prog 7 #[] w fun e w' => e = .returned (.bool true) ∧ Below w.heap.size w w' := by
  have HT := Aside0.mk hT
  clear hT
  go_enter Tryd.func7, Tryd.ntmps7
  go_wp2_with fail
  change Code.wp _ _ _ _ (w.alloc (.cells (keysL.map Value.string).toArray 30))
  have HB := Aside0.mk (show Below w.heap.size w (w.alloc (.cells (keysL.map Value.string).toArray 30)) from (Below.refl _ _).alloc (Nat.le_refl _) _)
  have HC := Aside0.mk (keys_cell w)
  have HLT := Aside0.mk (show w.heap.size < (w.alloc (.cells (keysL.map Value.string).toArray 30)).heap.size by simp)
  obtain ⟨w1, hw1⟩ : ∃ w1, w.alloc (.cells (keysL.map Value.string).toArray 30) = w1 := ⟨_, rfl⟩
  rw [hw1] at HB HC HLT ⊢
  clear hw1
  go_loopw [2] (fun u wr => ∃ i : Nat, u = .int .i64 (i : Int) ∧ i ≤ 13 ∧ Aside0 (Below w1.heap.size w1 wr)) (fun u _ => 13 - (intOf u).toNat)
  case atStart => exact ⟨0, rfl, by omega, ⟨Below.refl _ _⟩⟩
  case round =>
    obtain ⟨i, rfl, hi, HBr⟩ := hrel
    by_cases hlt : i < 13
    · have hcell := pw_cell_below HBr.out (HC.out i hlt)
      obtain ⟨f1, f2, f3, f4, f5, f6, f7, f8⟩ := keys_each i hlt
      obtain ⟨s, hs⟩ : ∃ s, keysL.getD i ByteArray.empty = s := ⟨_, rfl⟩
      rw [hs] at hcell f1 f2 f3 f4 f5 f6 f7 f8
      obtain ⟨t, ht⟩ : ∃ t, s ++ esS = t := ⟨_, rfl⟩
      rw [ht] at f3 f4 f8
      have hcat : s ++ (⟨#[115]⟩ : ByteArray) = t := ht
      obtain ⟨x, hx⟩ : ∃ x, s.extract 1 s.size = x := ⟨_, rfl⟩
      rw [hx] at f5
      have F1 := Aside0.mk f1; have F2 := Aside0.mk f2; have F3 := Aside0.mk f3; have F4 := Aside0.mk f4; have F5 := Aside0.mk f5
      have hsum : ¬ (9223372036854775807 < s.size + 1) := by omega
      clear f1 f2 f3 f4 f5 hs ht
      go_wp2_with fail
      refine (key_any s _ true F1).mono ?_
      rintro e w2 ⟨rfl, rfl⟩
      go_wp2_with fail
      refine (name_any s _ (by omega) (tabs_below HT.out (HB.out.trans (HBr.out.mono HB.out.size))) false F2).mono ?_
      rintro e w2 ⟨rfl, hB2⟩
      have HB2 := Aside0.mk (HBr.out.trans (hB2.mono HBr.out.size))
      replace hcell := pw_cell_below hB2 hcell
      clear hB2
      go_wp2_with fail
      refine (key_any t _ false F3).mono ?_
      rintro e w3 ⟨rfl, rfl⟩
      go_wp2_with fail
      refine (name_any t _ (by omega) (tabs_below HT.out (HB.out.trans (HB2.out.mono HB.out.size))) true F4).mono ?_
      rintro e w3 ⟨rfl, hB3⟩
      have HB3 := Aside0.mk (HB2.out.trans (hB3.mono HB2.out.size))
      replace hcell := pw_cell_below hB3 hcell
      clear hB3
      go_wp2_with fail
      refine (key_any x _ false F5).mono ?_
      rintro e w4 ⟨rfl, rfl⟩
      go_wp2
      go_roundw
      case rel => exact ⟨i + 1, by go_num, by omega, HB3⟩
      case measure => simp [intOf]; omega
    · have HB9 := Aside0.mk (HB.out.trans (HBr.out.mono HB.out.size))
      go_wp2_with fail
      refine (key_any _ _ false ⟨by decide +kernel⟩).mono ?_
      rintro e w2 ⟨rfl, rfl⟩
      go_wp2_with fail
      refine (awake_any _ (tabs_below HT.out HB9.out)).mono ?_
      rintro e w3 ⟨rfl, hB3⟩
      have HB3 := Aside0.mk (HB9.out.trans (hB3.mono HB9.out.size))
      clear hB3
      go_wp2
      go_ret
      exact ⟨rfl, HB3.out⟩
end Go.Proofs.YtbhakfaldedinaaDoor
