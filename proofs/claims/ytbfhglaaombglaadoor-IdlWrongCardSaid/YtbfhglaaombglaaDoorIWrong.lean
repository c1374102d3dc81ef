/- The statement IdlWrong. -/
import Derived.Test.YtbfhglaaombglaaDoorIgE
namespace Go.Proofs.YtbfhglaaombglaaDoor
set_option linter.unusedVariables false
set_option linter.unusedSimpArgs false
open Go.RowKit Go.ChangeMaps Go.Proofs.YtbfhglaaombglaaDoorW.PrintWords Go.Proofs.YtbfhglaaombglaaDoorW.PrintMore Go.Proofs.YtbfhglaaombglaaDoor.PIdlParses

def wr0 : ByteArray := ⟨#[]⟩
def wr1 : ByteArray := ⟨#[115, 99, 104, 101, 109, 97]⟩
def wr2 : ByteArray := ⟨#[115, 99, 104, 101, 109, 97, 32, 97]⟩
def wr3 : ByteArray := ⟨#[115, 99, 104, 101, 109, 97, 32, 97, 59, 59]⟩
def wr4 : ByteArray := ⟨#[115, 99, 104, 101, 109, 97, 32, 97, 59, 32, 109, 101, 115, 115, 97, 103, 101, 32, 109, 32, 123, 32, 105, 110, 116, 51, 50, 32, 61, 32, 49, 59, 32, 125]⟩
def wr5 : ByteArray := ⟨#[115, 99, 104, 101, 109, 97, 32, 97, 59, 32, 109, 101, 115, 115, 97, 103, 101, 32, 109, 32, 123, 32, 114, 101, 115, 101, 114, 118, 101, 100, 32, 59, 32, 125]⟩
def wr6 : ByteArray := ⟨#[115, 99, 104, 101, 109, 97, 32, 97, 59, 32, 99, 97, 108, 108, 32, 99, 40, 109, 41, 32, 40, 109, 41, 59]⟩
def wr7 : ByteArray := ⟨#[115, 99, 104, 101, 109, 97, 32, 97, 59, 32, 109, 101, 115, 115, 97, 103, 101, 32, 109, 32, 123, 32, 105, 110, 116, 51, 50, 32, 120, 32, 61, 32, 48, 49, 59, 32, 125]⟩
def wrL : List (ByteArray × Nat) := [(wr0, 0), (wr1, 6), (wr2, 8), (wr3, 9), (wr4, 28), (wr5, 31), (wr6, 20), (wr7, 32)]
theorem wr_parse : ∀ q ∈ wrL, parseF q.1 = (Sc.nil, q.2, 5) := by
  have h0 : parseF wr0 = (Sc.nil, 0, 5) := by kernel_rfl
  have h1 : parseF wr1 = (Sc.nil, 6, 5) := by kernel_rfl
  have h2 : parseF wr2 = (Sc.nil, 8, 5) := by kernel_rfl
  have h3 : parseF wr3 = (Sc.nil, 9, 5) := by kernel_rfl
  have h4 : parseF wr4 = (Sc.nil, 28, 5) := by kernel_rfl
  have h5 : parseF wr5 = (Sc.nil, 31, 5) := by kernel_rfl
  have h6 : parseF wr6 = (Sc.nil, 20, 5) := by kernel_rfl
  have h7 : parseF wr7 = (Sc.nil, 32, 5) := by kernel_rfl
  intro q hq
  simp only [wrL, List.mem_cons, List.not_mem_nil, or_false] at hq
  rcases hq with rfl | rfl | rfl | rfl | rfl | rfl | rfl | rfl
  · exact h0
  · exact h1
  · exact h2
  · exact h3
  · exact h4
  · exact h5
  · exact h6
  · exact h7
theorem wr_size : ∀ q ∈ wrL, q.1.size ≤ 140737488351232 := by
  intro q hq
  simp only [wrL, List.mem_cons, List.not_mem_nil, or_false] at hq
  rcases hq with rfl | rfl | rfl | rfl | rfl | rfl | rfl | rfl <;> decide
theorem wr_cells (w : World) : ∀ i, i < 8 → ((w.alloc (.cells (wrL.map fun q => Value.string q.1).toArray 47)).alloc (.cells (wrL.map fun q => Value.int .i64 (q.2 : Int)).toArray 48)).cell? ⟨w.heap.size, i, none⟩ = some (.string (wrL.getD i (E0, 0)).1)
    ∧ ((w.alloc (.cells (wrL.map fun q => Value.string q.1).toArray 47)).alloc (.cells (wrL.map fun q => Value.int .i64 (q.2 : Int)).toArray 48)).cell? ⟨w.heap.size + 1, i, none⟩ = some (.int .i64 ((wrL.getD i (E0, 0)).2 : Int)) := by
  obtain ⟨w1, hw1⟩ : ∃ w1, w.alloc (.cells (wrL.map fun q => Value.string q.1).toArray 47) = w1 := ⟨_, rfl⟩
  have h1 := heap_alloc_new w (.cells (wrL.map fun q => Value.string q.1).toArray 47)
  have hs : w1.heap.size = w.heap.size + 1 := by rw [← hw1]; simp
  rw [hw1] at h1 ⊢
  have hb : Below w1.heap.size w1 (w1.alloc (.cells (wrL.map fun q => Value.int .i64 (q.2 : Int)).toArray 48)) := (Below.refl _ _).alloc (Nat.le_refl _) _
  have h2 := heap_alloc_new w1 (.cells (wrL.map fun q => Value.int .i64 (q.2 : Int)).toArray 48)
  intro i hi
  constructor
  · refine pw_cell_below hb ?_
    rw [cell_of_row _ _ i _ 47 (0, 0) h1]
    have hl : i < wrL.length := hi
    simp [List.getElem?_eq_getElem hl, List.getD_eq_getElem?_getD]
  · rw [hs] at h2
    rw [cell_of_row _ _ i _ 48 (0, 0) h2]
    have hl : i < wrL.length := hi
    simp [List.getElem?_eq_getElem hl, List.getD_eq_getElem?_getD]
theorem wr_mem {i : Nat} (h : i < 8) : wrL.getD i (E0, 0) ∈ wrL := by
  have hl : i < wrL.length := h
  rw [List.getD_eq_getElem?_getD, List.getElem?_eq_getElem hl]
  exact List.getElem_mem hl
set_option maxRecDepth 100000 in
set_option maxHeartbeats 1000000 in
theorem wrong_any (w : World) (hT : Tabs w) :
    Calls Tryd.prog 8 #[] w fun e w' => e = .returned (.bool true) ∧ Below w.heap.size w w' := by
  have HT := Aside0.mk hT
  clear hT
  go_enter Tryd.func8, Tryd.ntmps8
  go_upto_region 3 with fail
  have hsz : (w.alloc (.cells (wrL.map fun q => Value.string q.1).toArray 47)).heap.size = w.heap.size + 1 := by simp
  have HC := Aside0.mk (wr_cells w)
  change Code.wp _ _ _ _ ((w.alloc (.cells (wrL.map fun q => Value.string q.1).toArray 47)).alloc (.cells (wrL.map fun q => Value.int .i64 (q.2 : Int)).toArray 48))
  have HB := Aside0.mk (show Below w.heap.size w ((w.alloc (.cells (wrL.map fun q => Value.string q.1).toArray 47)).alloc (.cells (wrL.map fun q => Value.int .i64 (q.2 : Int)).toArray 48)) from ((Below.refl _ _).alloc (Nat.le_refl _) _).alloc (by rw [hsz]; omega) _)
  obtain ⟨w1, hw1⟩ : ∃ w1, ((w.alloc (.cells (wrL.map fun q => Value.string q.1).toArray 47)).alloc (.cells (wrL.map fun q => Value.int .i64 (q.2 : Int)).toArray 48)) = w1 := ⟨_, rfl⟩
  rw [hw1] at HB HC ⊢
  clear hw1 hsz
  go_wp2_with fail
  go_loopw [3] (fun u wr => ∃ i : Nat, u = .int .i64 (i : Int) ∧ i ≤ 8 ∧ Aside0 (Below w1.heap.size w1 wr)) (fun u _ => 8 - (intOf u).toNat)
  case atStart => exact ⟨0, rfl, by omega, ⟨Below.refl _ _⟩⟩
  case round =>
    obtain ⟨i, rfl, hi, HBr⟩ := hrel
    have HB2 := Aside0.mk (HB.out.trans (HBr.out.mono HB.out.size))
    by_cases hlt : i < 8
    · obtain ⟨c1, c2⟩ := HC.out i hlt
      replace c1 := pw_cell_below HBr.out c1
      replace c2 := pw_cell_below HBr.out c2
      have hp := wr_parse _ (wr_mem hlt)
      have hz := wr_size _ (wr_mem hlt)
      obtain ⟨q, hq⟩ : ∃ s, wrL.getD i (E0, 0) = s := ⟨_, rfl⟩
      rw [hq] at c1 c2 hp hz
      obtain ⟨s, n⟩ := q
      simp only at c1 c2 hp hz
      have HP := Aside0.mk hp
      clear hp hq
      go_wp2_with fail
      refine (parse_parts s _ hz (tabs_below HT.out HB2.out) Sc.nil n 5 HP E0 [] [] [] 0 0 0 ⟨⟨rfl, rfl, rfl, rfl, rfl, rfl, rfl⟩⟩).mono ?_
      rintro e w2 ⟨A1, k1, A2, k2, A3, k3, rfl, _, _, _, HB3⟩
      have hbx : Below w2.heap.size w2 (w2.alloc (.cells #[.string E0, .slice A1 0 k1, .slice A2 0 k2, .slice A3 0 k3] 27)) := (Below.refl _ _).alloc (Nat.le_refl _) _
      have c3 := pw_cell_below hbx (pw_cell_below HB3.out c2)
      have HB4 := Aside0.mk (HBr.out.trans ((HB3.out.trans (hbx.mono HB3.out.size)).mono HBr.out.size))
      clear hbx
      go_wp2
      go_roundw
      case rel => exact ⟨i + 1, by go_num, by omega, HB4⟩
      case measure => simp [intOf]; omega
    · go_wp2_with fail
      refine (awake_any _ (tabs_below HT.out HB2.out)).mono ?_
      rintro e w3 ⟨rfl, hB3⟩
      have HB3 := Aside0.mk (HB2.out.trans (hB3.mono HB2.out.size))
      clear hB3
      go_wp2
      go_ret
      exact ⟨rfl, HB3.out⟩
end Go.Proofs.YtbfhglaaombglaaDoor
