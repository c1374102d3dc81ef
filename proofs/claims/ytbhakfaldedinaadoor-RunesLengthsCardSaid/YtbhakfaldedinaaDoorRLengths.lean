/- The law RunesLengths. -/
import Derived.Test.YtbhakfaldedinaaDoorRPut
import Derived.Test.YtbhakfaldedinaaDoorRAwake
import Derived.Deep.QuietTactic
namespace Go.Proofs.YtbhakfaldedinaaDoor
set_option linter.unusedVariables false
set_option linter.unusedSimpArgs false
open Go.RowKit Go.Proofs.YtbhakfaldedinaaDoorW.PrintWords

def lenA : List Int := [0, 127, 128, 2047, 2048, 65535, 65536, 1114111]
def lenB : List Int := [1, 1, 2, 2, 3, 3, 4, 4]
theorem len_each : ∀ i, i < 8 → (((putS (rd lenA (i : Nat))).size : Nat) : Int) = rd lenB (i : Nat) := by decide +kernel
theorem lenA_in : ∀ i, i < 8 → -2147483648 ≤ rd lenA (i : Nat) ∧ rd lenA (i : Nat) ≤ 2147483647 := by decide +kernel

set_option maxRecDepth 100000 in
set_option maxHeartbeats 1000000 in
theorem runeslengths_walk (w : World) (hT : Tabs w) :
    Calls Tryd.prog 10 #[] w fun e w' => e = .returned (.bool true) ∧ Below w.heap.size w w' := by
  have HT := Aside0.mk hT
  clear hT
  go_enter Tryd.func10, Tryd.ntmps10
  go_wp2_with fail
  have ra := own_reads' (own_lit w w.heap.size 35 .i32 lenA (Nat.le_refl _) (by decide))
  have rb := own_reads' (own_lit (w.alloc (.cells (nums .i32 lenA).toArray 35)) w.heap.size 36 .i64 lenB (by simp) (by decide))
  have hb0 : Below w.heap.size w (w.alloc (.cells (nums .i32 lenA).toArray 35)) := (Below.refl _ _).alloc (Nat.le_refl _) _
  have hb1 : Below (w.alloc (.cells (nums .i32 lenA).toArray 35)).heap.size (w.alloc (.cells (nums .i32 lenA).toArray 35)) ((w.alloc (.cells (nums .i32 lenA).toArray 35)).alloc (.cells (nums .i64 lenB).toArray 36)) := (Below.refl _ _).alloc (Nat.le_refl _) _
  have HRA := Aside0.mk (ra.below hb1)
  have HRB := Aside0.mk rb
  have HB := Aside0.mk (hb0.trans (hb1.mono hb0.size))
  clear ra rb hb0 hb1
  obtain ⟨w2, hw2⟩ : ∃ w2, (w.alloc (.cells (nums .i32 lenA).toArray 35)).alloc (.cells (nums .i64 lenB).toArray 36) = w2 := ⟨_, rfl⟩
  have hsz : (w.alloc (.cells (nums .i32 lenA).toArray 35)).heap.size = w.heap.size + 1 := by simp
  rw [hw2] at HRA HRB HB
  rw [hsz] at HRB
  change Code.wp _ _ _ _ ((w.alloc (.cells (nums .i32 lenA).toArray 35)).alloc (.cells (nums .i64 lenB).toArray 36))
  rw [hw2]
  clear hw2 hsz
  go_loopw [3] (fun u wr => ∃ i : Nat, u = .int .i64 (i : Int) ∧ i ≤ 8 ∧ Aside0 (Below w2.heap.size w2 wr)) (fun u _ => 8 - (intOf u).toNat)
  case atStart => exact ⟨0, rfl, by omega, ⟨Below.refl _ _⟩⟩
  case round =>
    obtain ⟨i, rfl, hi, HBr⟩ := hrel
    by_cases hlt : i < 8
    · obtain ⟨_, e1, hca⟩ := HRA.out.at_ ((i : Nat) : Int) (by omega) (by have : lenA.length = 8 := rfl; omega)
      cases e1
      obtain ⟨_, e1, hcb⟩ := HRB.out.at_ ((i : Nat) : Int) (by omega) (by have : lenB.length = 8 := rfl; omega)
      cases e1
      rw [Int.toNat_natCast, add_plain] at hca hcb
      have h1 := lenA_in i hlt
      have h2 := len_each i hlt
      obtain ⟨r, hr⟩ : ∃ r, rd lenA (i : Nat) = r := ⟨_, rfl⟩
      obtain ⟨s, hs⟩ : ∃ s, putS r = s := ⟨_, rfl⟩
      rw [hr] at hca h1 h2
      rw [hs] at h2
      rw [← h2] at hcb
      have hca' := fun k => pw_cell_below (pw_below_drewN HBr.out k) hca
      have hcb' := fun k => pw_cell_below (pw_below_drewN HBr.out k) hcb
      have H1 := Aside0.mk h1
      have HS := Aside0.mk hs
      clear h1 h2 hr hs hca hcb
      go_wp2_with fail
      go_quiet (exact Calls.quiet_of_same ((put_any r _ H1.out).mono fun _ _ ⟨h1, h2⟩ => ⟨by rw [h1, HS.out], h2.symm⟩))
      go_wp2
      go_roundw
      case rel => exact ⟨i + 1, by go_num, by omega, ⟨pw_below_drewN HBr.out nq⟩⟩
      case measure => simp [intOf]; omega
    · have HB3 := Aside0.mk (HB.out.trans (HBr.out.mono HB.out.size))
      go_wp2_with fail
      refine (put_any 55296 _ (by decide)).mono ?_
      rintro e w3 ⟨rfl, rfl⟩
      rw [show putS 55296 = (⟨#[]⟩ : ByteArray) by decide +kernel]
      go_wp2_with fail
      refine (put_any 57343 _ (by decide)).mono ?_
      rintro e w4 ⟨rfl, rfl⟩
      rw [show putS 57343 = (⟨#[]⟩ : ByteArray) by decide +kernel]
      go_wp2_with fail
      refine (put_any 1114112 _ (by decide)).mono ?_
      rintro e w5 ⟨rfl, rfl⟩
      rw [show putS 1114112 = (⟨#[]⟩ : ByteArray) by decide +kernel]
      go_wp2_with fail
      refine (put_any (-1) _ (by decide)).mono ?_
      rintro e w6 ⟨rfl, rfl⟩
      rw [show putS (-1) = (⟨#[]⟩ : ByteArray) by decide +kernel]
      go_wp2_with fail
      refine (put_any 55295 _ (by decide)).mono ?_
      rintro e w7 ⟨rfl, rfl⟩
      obtain ⟨s7, hs7, hz7⟩ : ∃ s, putS 55295 = s ∧ s.size = 3 := ⟨_, rfl, by decide +kernel⟩
      rw [hs7]
      clear hs7
      go_wp2_with fail
      refine (put_any 57344 _ (by decide)).mono ?_
      rintro e w8 ⟨rfl, rfl⟩
      obtain ⟨s8, hs8, hz8⟩ : ∃ s, putS 57344 = s ∧ s.size = 3 := ⟨_, rfl, by decide +kernel⟩
      rw [hs8]
      clear hs8
      go_wp2_with fail
      refine (awake_any _ (tabs_below HT.out HB3.out)).mono ?_
      rintro e w9 ⟨rfl, hB9⟩
      have HB9 := Aside0.mk (HB3.out.trans (hB9.mono HB3.out.size))
      clear hB9
      go_wp2
      go_ret
      exact ⟨rfl, HB9.out⟩
end Go.Proofs.YtbhakfaldedinaaDoor
