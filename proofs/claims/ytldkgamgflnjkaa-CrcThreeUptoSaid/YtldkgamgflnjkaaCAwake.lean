/- awake of layer 3. -/
import Derived.Test.YtldkgamgflnjkaaCRef
import Derived.Lib.SlBytesConst
namespace Go.Proofs.Ytldkgamgflnjkaa
set_option linter.unusedVariables false
set_option linter.unusedSimpArgs false
open Go.RowKit Go.Proofs.YtldkgamgflnjkaaW.PrintWords

/-- A literal's bytes, whatever mark their block bears. -/
theorem marked_reads (w : World) (e : TypeId) (xs : List Int) (fr : Nat × Nat) (hl : xs.length ≤ 9223372036854775807) :
    ReadsInt (w.alloc (.cells (nums .u8 xs).toArray e fr)) .u8 (some ⟨w.heap.size, 0, none⟩) xs.length xs := by
  refine ⟨rfl, hl, fun hp => ⟨_, rfl, fun j hj => ?_⟩⟩
  rw [add_plain, cell_of_row _ _ j _ e fr (heap_alloc_new w _)]
  simp [nums, List.getElem?_eq_getElem hj, List.getD_eq_getElem?_getD]

theorem awake_any (w : World) :
    Calls Try.prog 12 #[] w fun e w' => e = .returned (.bool true) ∧ Below w.heap.size w w' := by
  have kc : (convert 23 23 (.slice (some ⟨w.heap.size, 0, none⟩) 9 9)).run Try.prog (w.alloc (.cells #[.int .u8 49, .int .u8 50, .int .u8 51, .int .u8 52, .int .u8 53, .int .u8 54, .int .u8 55, .int .u8 56, .int .u8 57] 5)) = .ok (.slice (some ⟨w.heap.size, 0, none⟩) 9 9) (w.alloc (.cells #[.int .u8 49, .int .u8 50, .int .u8 51, .int .u8 52, .int .u8 53, .int .u8 54, .int .u8 55, .int .u8 56, .int .u8 57] 5 (9, 10))) :=
    Lib.run_convert_bytes_const (P := Try.prog) w 23 5 _ 9 9 Try.underlying23 Try.underlying5
  have hl := Aside0.mk (marked_reads w 5 [49, 50, 51, 52, 53, 54, 55, 56, 57] (9, 10) (by decide))
  go_enter Try.func12, Try.ntmps12
  go_wp2_with fail
  refine (cof_new _ 9 9 [49, 50, 51, 52, 53, 54, 55, 56, 57] _ rfl hl.out (by decide)).mono ?_
  rintro e w1 ⟨r, rfl, hr, rfl⟩
  have hr1 : (r == 3421780262) = true := by rw [beq_iff_eq, hr.out]; decide +kernel
  go_wp2_with fail
  refine (cof_new none 0 0 [] _ rfl ⟨rfl, by decide, fun h => absurd h (by decide)⟩ (by decide)).mono ?_
  rintro e w1 ⟨r2, rfl, hr2, rfl⟩
  have hr3 : (r2 == 0) = true := by rw [beq_iff_eq, hr2.out]; decide +kernel
  go_wp2
  go_ret
  exact ⟨rfl, (Below.refl _ _).alloc (Nat.le_refl _) _⟩
end Go.Proofs.Ytldkgamgflnjkaa
