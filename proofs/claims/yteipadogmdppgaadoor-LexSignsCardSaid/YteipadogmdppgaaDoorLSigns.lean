/- The law LexSigns. -/
import Derived.Test.YteipadogmdppgaaDoorLAwake
namespace Go.Proofs.YteipadogmdppgaaDoor
set_option linter.unusedVariables false
set_option linter.unusedSimpArgs false
open Go.RowKit Go.Proofs.YteipadogmdppgaaDoorW.PrintWords

def letB (c : Nat) : Bool := decide (97 ≤ c ∧ c ≤ 122 ∨ 65 ≤ c ∧ c ≤ 90 ∨ c = 95)
def digB (c : Nat) : Bool := decide (48 ≤ c ∧ c ≤ 57)
def goodB (c : Nat) : Bool := letB c || (digB c || signB c)
def cnt (i : Nat) : Nat := ((List.range i).filter goodB).length
theorem cnt_le (i : Nat) : cnt i ≤ i := by
  have := List.length_filter_le goodB (List.range i)
  rw [List.length_range] at this
  exact this
theorem cnt_yes (i : Nat) (h : goodB i = true) : cnt (i + 1) = cnt i + 1 := by
  rw [cnt, List.range_succ, List.filter_append, List.filter_cons_of_pos h]
  simp [cnt]
theorem cnt_no (i : Nat) (h : goodB i = false) : cnt (i + 1) = cnt i := by
  rw [cnt, List.range_succ, List.filter_append, List.filter_cons_of_neg (by simp [h])]
  simp [cnt]
theorem cnt_all : cnt 128 = 70 := by decide +kernel
theorem sig_blank0 : ∀ c, c < 128 → (blankB c = false ∨ (toksA 0 [c] = ([], none) ∧ goodB c = false)) := by decide +kernel
theorem sig_letter0 : ∀ c, c < 128 → (blankB c = true ∨ letB c = false ∨ (toksA 0 [c] = ([(1, 0, 1)], none) ∧ digB c = false ∧ signB c = false)) := by decide +kernel
theorem sig_digit0 : ∀ c, c < 128 → (blankB c = true ∨ letB c = true ∨ digB c = false ∨ (toksA 0 [c] = ([(2, 0, 1)], none) ∧ signB c = false)) := by decide +kernel
theorem sig_sign0 : ∀ c, c < 128 → (blankB c = true ∨ letB c = true ∨ digB c = true ∨ signB c = false ∨ toksA 0 [c] = ([(3, 0, 1)], none)) := by decide +kernel
theorem sig_none0 : ∀ c, c < 128 → (blankB c = true ∨ letB c = true ∨ digB c = true ∨ signB c = true ∨ toksA 0 [c] = ([], some (0, 5))) := by decide +kernel
theorem bs_one (c : Nat) (h : c < 128) : bs (strOfNums [(c : Int)]) = [c] := by
  have : ∀ c : Nat, c < 128 → (bs (strOfNums [(c : Int)]) = [c] ∨ False) := by decide +kernel
  exact (this c h).resolve_right id

def listOf (L : List (Nat × Nat × Nat)) : Option (Nat × Nat) → List (Nat × Nat × Nat)
  | none => L
  | some _ => []
def atOf : Option (Nat × Nat) → Nat
  | none => 0
  | some (a, _) => a
def erO : Option (Nat × Nat) → Nat
  | none => 0
  | some (_, e) => e
theorem tokens_all (s : ByteArray) (w : World) (hs : s.size ≤ 16384) (hT : Tabs w) (L : List (Nat × Nat × Nat)) (E : Option (Nat × Nat)) (hR : Aside0 (toksA 0 (bs s) = (L, E))) :
    Calls Tryd.prog 11 #[.string s] w fun e w' => ∃ A c, e = .returned (.tuple #[.slice A (listOf L E).length c, .int .i64 (atOf E : Int), .int .i64 (erO E : Int)]) ∧ Aside0 (TR s w' A (listOf L E)) ∧ Aside0 (Below w.heap.size w w') := by
  cases E with
  | none => exact tokens_ok s w hs hT L hR
  | some ae =>
    obtain ⟨a, er⟩ := ae
    exact (tokens_err s w hs hT L a er hR).mono fun _ _ ⟨h1, h2⟩ => ⟨none, 0, h1, ⟨⟨by simp [listOf], fun h => absurd h (by simp [listOf])⟩⟩, h2⟩

set_option maxRecDepth 100000 in
set_option maxHeartbeats 4000000 in
theorem lexsigns_walk (w : World) (hT : Tabs w) :
    Calls Tryd.prog 5 #[] w fun e w' => e = .returned (.bool true) ∧ Below w.heap.size w w' := by
  have HT := Aside0.mk hT
  clear hT
  go_enter Tryd.func5, Tryd.ntmps5
  go_wp2_with fail
  go_loopw [1, 2] (fun n u wr => ∃ c m : Nat, u = .int .i64 (c : Int) ∧ n = .int .i64 (m : Int) ∧ c ≤ 128 ∧ m ≤ c ∧ Aside0 (cnt c = m) ∧ Aside0 (Below w.heap.size w wr)) (fun _ u _ => 128 - (intOf u).toNat)
  case atStart => exact ⟨0, 0, rfl, rfl, by omega, by omega, ⟨rfl⟩, ⟨Below.refl _ _⟩⟩
  case round =>
    obtain ⟨c, m, rfl, rfl, hc, hm, HM, HB⟩ := hrel
    by_cases hlt : c < 128
    · obtain ⟨s, hs⟩ : ∃ s, strOfNums [(c : Int)] = s := ⟨_, rfl⟩
      have hlit : (convert 33 9 (.slice (some ⟨wr.heap.size, 0, none⟩) 1 1)).run Tryd.prog (wr.alloc (.cells #[.int .u8 (c : Int)] 5)) = .ok (.string s) (wr.alloc (.cells #[.int .u8 (c : Int)] 5)) := by
        rw [← hs]
        exact str_own (own_lit wr wr.heap.size 5 .u8 [(c : Int)] (Nat.le_refl _) (by simp))
      have hbs := bs_one c hlt
      rw [hs] at hbs
      have hsz : s.size ≤ 16384 := by rw [← bs_length, hbs]; simp
      have hwr : IntKind.u8.wrap (c : Int) = (c : Int) := by show (c : Int) % 256 = _; omega
      have HBS := Aside0.mk hbs
      clear hbs hs
      have HBa : Aside0 (Below w.heap.size w (wr.alloc (.cells #[.int .u8 (c : Int)] 5))) := ⟨HB.out.alloc HB.out.size _⟩
      --CLASSES
      have hcl : c = 32 ∨ c = 9 ∨ c = 13 ∨ c = 10 ∨ c = 123 ∨ c = 125 ∨ c = 40 ∨ c = 41 ∨ c = 59 ∨ c = 61 ∨ c = 44 ∨ c = 95 ∨ (97 ≤ c ∧ c ≤ 122) ∨ (65 ≤ c ∧ c ≤ 90) ∨ (48 ≤ c ∧ c ≤ 57) ∨ (0 ≤ c ∧ c ≤ 47 ∧ c ≠ 32 ∧ c ≠ 9 ∧ c ≠ 13 ∧ c ≠ 10 ∧ c ≠ 40 ∧ c ≠ 41 ∧ c ≠ 44) ∨ (58 ≤ c ∧ c ≤ 64 ∧ c ≠ 59 ∧ c ≠ 61) ∨ (91 ≤ c ∧ c ≤ 96 ∧ c ≠ 95) ∨ (123 ≤ c ∧ c ≤ 127 ∧ c ≠ 123 ∧ c ≠ 125) := by omega
      rcases hcl with rfl | rfl | rfl | rfl | rfl | rfl | rfl | rfl | rfl | rfl | rfl | rfl | hcl | hcl | hcl | hcl | hcl | hcl | hcl
      · have f1 : toksA 0 [32] = ([], none) := by decide +kernel
        have f2 : goodB 32 = false := by decide +kernel
        have HF : Aside0 (toksA 0 (bs s) = ([], none)) := ⟨by rw [HBS.out]; exact f1⟩
        have HM2 : Aside0 (cnt (32 + 1) = m) := ⟨by rw [cnt_no _ (f2), HM.out]⟩
        clear f1 f2
        have HBa : Aside0 (Below w.heap.size w (wr.alloc (.cells #[.int .u8 (32 : Int)] 5))) := ⟨HB.out.alloc HB.out.size _⟩
        replace hlit : (convert 33 9 (.slice (some ⟨wr.heap.size, 0, none⟩) 1 1)).run Tryd.prog (wr.alloc (.cells #[.int .u8 (32 : Int)] 5)) = .ok (.string s) (wr.alloc (.cells #[.int .u8 (32 : Int)] 5)) := hlit
        go_wp2_with fail
        refine (tokens_ok s _ hsz (tabs_below HT.out HBa.out) [] HF).mono ?_
        rintro e w3 ⟨A, c3, rfl, HTR, hB3⟩
        have HBw := Aside0.mk (HBa.out.trans (hB3.out.mono HBa.out.size))
        clear hB3
        simp only [List.length_nil]
        go_wp2
        go_roundw
        case rel => exact ⟨32 + 1, m, by go_num, by go_num, by omega, by omega, HM2, HBw⟩
        case measure => simp [intOf] <;> omega
      · have f1 : toksA 0 [9] = ([], none) := by decide +kernel
        have f2 : goodB 9 = false := by decide +kernel
        have HF : Aside0 (toksA 0 (bs s) = ([], none)) := ⟨by rw [HBS.out]; exact f1⟩
        have HM2 : Aside0 (cnt (9 + 1) = m) := ⟨by rw [cnt_no _ (f2), HM.out]⟩
        clear f1 f2
        have HBa : Aside0 (Below w.heap.size w (wr.alloc (.cells #[.int .u8 (9 : Int)] 5))) := ⟨HB.out.alloc HB.out.size _⟩
        replace hlit : (convert 33 9 (.slice (some ⟨wr.heap.size, 0, none⟩) 1 1)).run Tryd.prog (wr.alloc (.cells #[.int .u8 (9 : Int)] 5)) = .ok (.string s) (wr.alloc (.cells #[.int .u8 (9 : Int)] 5)) := hlit
        go_wp2_with fail
        refine (tokens_ok s _ hsz (tabs_below HT.out HBa.out) [] HF).mono ?_
        rintro e w3 ⟨A, c3, rfl, HTR, hB3⟩
        have HBw := Aside0.mk (HBa.out.trans (hB3.out.mono HBa.out.size))
        clear hB3
        simp only [List.length_nil]
        go_wp2
        go_roundw
        case rel => exact ⟨9 + 1, m, by go_num, by go_num, by omega, by omega, HM2, HBw⟩
        case measure => simp [intOf] <;> omega
      · have f1 : toksA 0 [13] = ([], none) := by decide +kernel
        have f2 : goodB 13 = false := by decide +kernel
        have HF : Aside0 (toksA 0 (bs s) = ([], none)) := ⟨by rw [HBS.out]; exact f1⟩
        have HM2 : Aside0 (cnt (13 + 1) = m) := ⟨by rw [cnt_no _ (f2), HM.out]⟩
        clear f1 f2
        have HBa : Aside0 (Below w.heap.size w (wr.alloc (.cells #[.int .u8 (13 : Int)] 5))) := ⟨HB.out.alloc HB.out.size _⟩
        replace hlit : (convert 33 9 (.slice (some ⟨wr.heap.size, 0, none⟩) 1 1)).run Tryd.prog (wr.alloc (.cells #[.int .u8 (13 : Int)] 5)) = .ok (.string s) (wr.alloc (.cells #[.int .u8 (13 : Int)] 5)) := hlit
        go_wp2_with fail
        refine (tokens_ok s _ hsz (tabs_below HT.out HBa.out) [] HF).mono ?_
        rintro e w3 ⟨A, c3, rfl, HTR, hB3⟩
        have HBw := Aside0.mk (HBa.out.trans (hB3.out.mono HBa.out.size))
        clear hB3
        simp only [List.length_nil]
        go_wp2
        go_roundw
        case rel => exact ⟨13 + 1, m, by go_num, by go_num, by omega, by omega, HM2, HBw⟩
        case measure => simp [intOf] <;> omega
      · have f1 : toksA 0 [10] = ([], none) := by decide +kernel
        have f2 : goodB 10 = false := by decide +kernel
        have HF : Aside0 (toksA 0 (bs s) = ([], none)) := ⟨by rw [HBS.out]; exact f1⟩
        have HM2 : Aside0 (cnt (10 + 1) = m) := ⟨by rw [cnt_no _ (f2), HM.out]⟩
        clear f1 f2
        have HBa : Aside0 (Below w.heap.size w (wr.alloc (.cells #[.int .u8 (10 : Int)] 5))) := ⟨HB.out.alloc HB.out.size _⟩
        replace hlit : (convert 33 9 (.slice (some ⟨wr.heap.size, 0, none⟩) 1 1)).run Tryd.prog (wr.alloc (.cells #[.int .u8 (10 : Int)] 5)) = .ok (.string s) (wr.alloc (.cells #[.int .u8 (10 : Int)] 5)) := hlit
        go_wp2_with fail
        refine (tokens_ok s _ hsz (tabs_below HT.out HBa.out) [] HF).mono ?_
        rintro e w3 ⟨A, c3, rfl, HTR, hB3⟩
        have HBw := Aside0.mk (HBa.out.trans (hB3.out.mono HBa.out.size))
        clear hB3
        simp only [List.length_nil]
        go_wp2
        go_roundw
        case rel => exact ⟨10 + 1, m, by go_num, by go_num, by omega, by omega, HM2, HBw⟩
        case measure => simp [intOf] <;> omega
      · have f1 : toksA 0 [123] = ([(3, 0, 1)], none) := by decide +kernel
        have f2 : goodB 123 = true := by decide +kernel
        have HF : Aside0 (toksA 0 (bs s) = ([(3, 0, 1)], none)) := ⟨by rw [HBS.out]; exact f1⟩
        have HM2 : Aside0 (cnt (123 + 1) = m + 1) := ⟨by rw [cnt_yes _ (f2), HM.out]⟩
        clear f1 f2
        have HBa : Aside0 (Below w.heap.size w (wr.alloc (.cells #[.int .u8 (123 : Int)] 5))) := ⟨HB.out.alloc HB.out.size _⟩
        replace hlit : (convert 33 9 (.slice (some ⟨wr.heap.size, 0, none⟩) 1 1)).run Tryd.prog (wr.alloc (.cells #[.int .u8 (123 : Int)] 5)) = .ok (.string s) (wr.alloc (.cells #[.int .u8 (123 : Int)] 5)) := hlit
        go_wp2_with fail
        refine (tokens_ok s _ hsz (tabs_below HT.out HBa.out) [(3, 0, 1)] HF).mono ?_
        rintro e w3 ⟨A, c3, rfl, HTR, hB3⟩
        obtain ⟨g, rfl, hcell⟩ := HTR.out.2 (by decide)
        obtain ⟨x0, x1, x2⟩ := hcell 0 _ rfl
        simp only [Nat.zero_mul, Nat.zero_add] at x0 x1 x2
        clear hcell
        have HBw := Aside0.mk (HBa.out.trans (hB3.out.mono HBa.out.size))
        clear hB3
        simp only [List.length_singleton]
        go_wp2
        go_roundw
        case rel => exact ⟨123 + 1, m + 1, by go_num, by go_num, by omega, by omega, HM2, HBw⟩
        case measure => simp [intOf] <;> omega
      · have f1 : toksA 0 [125] = ([(3, 0, 1)], none) := by decide +kernel
        have f2 : goodB 125 = true := by decide +kernel
        have HF : Aside0 (toksA 0 (bs s) = ([(3, 0, 1)], none)) := ⟨by rw [HBS.out]; exact f1⟩
        have HM2 : Aside0 (cnt (125 + 1) = m + 1) := ⟨by rw [cnt_yes _ (f2), HM.out]⟩
        clear f1 f2
        have HBa : Aside0 (Below w.heap.size w (wr.alloc (.cells #[.int .u8 (125 : Int)] 5))) := ⟨HB.out.alloc HB.out.size _⟩
        replace hlit : (convert 33 9 (.slice (some ⟨wr.heap.size, 0, none⟩) 1 1)).run Tryd.prog (wr.alloc (.cells #[.int .u8 (125 : Int)] 5)) = .ok (.string s) (wr.alloc (.cells #[.int .u8 (125 : Int)] 5)) := hlit
        go_wp2_with fail
        refine (tokens_ok s _ hsz (tabs_below HT.out HBa.out) [(3, 0, 1)] HF).mono ?_
        rintro e w3 ⟨A, c3, rfl, HTR, hB3⟩
        obtain ⟨g, rfl, hcell⟩ := HTR.out.2 (by decide)
        obtain ⟨x0, x1, x2⟩ := hcell 0 _ rfl
        simp only [Nat.zero_mul, Nat.zero_add] at x0 x1 x2
        clear hcell
        have HBw := Aside0.mk (HBa.out.trans (hB3.out.mono HBa.out.size))
        clear hB3
        simp only [List.length_singleton]
        go_wp2
        go_roundw
        case rel => exact ⟨125 + 1, m + 1, by go_num, by go_num, by omega, by omega, HM2, HBw⟩
        case measure => simp [intOf] <;> omega
      · have f1 : toksA 0 [40] = ([(3, 0, 1)], none) := by decide +kernel
        have f2 : goodB 40 = true := by decide +kernel
        have HF : Aside0 (toksA 0 (bs s) = ([(3, 0, 1)], none)) := ⟨by rw [HBS.out]; exact f1⟩
        have HM2 : Aside0 (cnt (40 + 1) = m + 1) := ⟨by rw [cnt_yes _ (f2), HM.out]⟩
        clear f1 f2
        have HBa : Aside0 (Below w.heap.size w (wr.alloc (.cells #[.int .u8 (40 : Int)] 5))) := ⟨HB.out.alloc HB.out.size _⟩
        replace hlit : (convert 33 9 (.slice (some ⟨wr.heap.size, 0, none⟩) 1 1)).run Tryd.prog (wr.alloc (.cells #[.int .u8 (40 : Int)] 5)) = .ok (.string s) (wr.alloc (.cells #[.int .u8 (40 : Int)] 5)) := hlit
        go_wp2_with fail
        refine (tokens_ok s _ hsz (tabs_below HT.out HBa.out) [(3, 0, 1)] HF).mono ?_
        rintro e w3 ⟨A, c3, rfl, HTR, hB3⟩
        obtain ⟨g, rfl, hcell⟩ := HTR.out.2 (by decide)
        obtain ⟨x0, x1, x2⟩ := hcell 0 _ rfl
        simp only [Nat.zero_mul, Nat.zero_add] at x0 x1 x2
        clear hcell
        have HBw := Aside0.mk (HBa.out.trans (hB3.out.mono HBa.out.size))
        clear hB3
        simp only [List.length_singleton]
        go_wp2
        go_roundw
        case rel => exact ⟨40 + 1, m + 1, by go_num, by go_num, by omega, by omega, HM2, HBw⟩
        case measure => simp [intOf] <;> omega
      · have f1 : toksA 0 [41] = ([(3, 0, 1)], none) := by decide +kernel
        have f2 : goodB 41 = true := by decide +kernel
        have HF : Aside0 (toksA 0 (bs s) = ([(3, 0, 1)], none)) := ⟨by rw [HBS.out]; exact f1⟩
        have HM2 : Aside0 (cnt (41 + 1) = m + 1) := ⟨by rw [cnt_yes _ (f2), HM.out]⟩
        clear f1 f2
        have HBa : Aside0 (Below w.heap.size w (wr.alloc (.cells #[.int .u8 (41 : Int)] 5))) := ⟨HB.out.alloc HB.out.size _⟩
        replace hlit : (convert 33 9 (.slice (some ⟨wr.heap.size, 0, none⟩) 1 1)).run Tryd.prog (wr.alloc (.cells #[.int .u8 (41 : Int)] 5)) = .ok (.string s) (wr.alloc (.cells #[.int .u8 (41 : Int)] 5)) := hlit
        go_wp2_with fail
        refine (tokens_ok s _ hsz (tabs_below HT.out HBa.out) [(3, 0, 1)] HF).mono ?_
        rintro e w3 ⟨A, c3, rfl, HTR, hB3⟩
        obtain ⟨g, rfl, hcell⟩ := HTR.out.2 (by decide)
        obtain ⟨x0, x1, x2⟩ := hcell 0 _ rfl
        simp only [Nat.zero_mul, Nat.zero_add] at x0 x1 x2
        clear hcell
        have HBw := Aside0.mk (HBa.out.trans (hB3.out.mono HBa.out.size))
        clear hB3
        simp only [List.length_singleton]
        go_wp2
        go_roundw
        case rel => exact ⟨41 + 1, m + 1, by go_num, by go_num, by omega, by omega, HM2, HBw⟩
        case measure => simp [intOf] <;> omega
      · have f1 : toksA 0 [59] = ([(3, 0, 1)], none) := by decide +kernel
        have f2 : goodB 59 = true := by decide +kernel
        have HF : Aside0 (toksA 0 (bs s) = ([(3, 0, 1)], none)) := ⟨by rw [HBS.out]; exact f1⟩
        have HM2 : Aside0 (cnt (59 + 1) = m + 1) := ⟨by rw [cnt_yes _ (f2), HM.out]⟩
        clear f1 f2
        have HBa : Aside0 (Below w.heap.size w (wr.alloc (.cells #[.int .u8 (59 : Int)] 5))) := ⟨HB.out.alloc HB.out.size _⟩
        replace hlit : (convert 33 9 (.slice (some ⟨wr.heap.size, 0, none⟩) 1 1)).run Tryd.prog (wr.alloc (.cells #[.int .u8 (59 : Int)] 5)) = .ok (.string s) (wr.alloc (.cells #[.int .u8 (59 : Int)] 5)) := hlit
        go_wp2_with fail
        refine (tokens_ok s _ hsz (tabs_below HT.out HBa.out) [(3, 0, 1)] HF).mono ?_
        rintro e w3 ⟨A, c3, rfl, HTR, hB3⟩
        obtain ⟨g, rfl, hcell⟩ := HTR.out.2 (by decide)
        obtain ⟨x0, x1, x2⟩ := hcell 0 _ rfl
        simp only [Nat.zero_mul, Nat.zero_add] at x0 x1 x2
        clear hcell
        have HBw := Aside0.mk (HBa.out.trans (hB3.out.mono HBa.out.size))
        clear hB3
        simp only [List.length_singleton]
        go_wp2
        go_roundw
        case rel => exact ⟨59 + 1, m + 1, by go_num, by go_num, by omega, by omega, HM2, HBw⟩
        case measure => simp [intOf] <;> omega
      · have f1 : toksA 0 [61] = ([(3, 0, 1)], none) := by decide +kernel
        have f2 : goodB 61 = true := by decide +kernel
        have HF : Aside0 (toksA 0 (bs s) = ([(3, 0, 1)], none)) := ⟨by rw [HBS.out]; exact f1⟩
        have HM2 : Aside0 (cnt (61 + 1) = m + 1) := ⟨by rw [cnt_yes _ (f2), HM.out]⟩
        clear f1 f2
        have HBa : Aside0 (Below w.heap.size w (wr.alloc (.cells #[.int .u8 (61 : Int)] 5))) := ⟨HB.out.alloc HB.out.size _⟩
        replace hlit : (convert 33 9 (.slice (some ⟨wr.heap.size, 0, none⟩) 1 1)).run Tryd.prog (wr.alloc (.cells #[.int .u8 (61 : Int)] 5)) = .ok (.string s) (wr.alloc (.cells #[.int .u8 (61 : Int)] 5)) := hlit
        go_wp2_with fail
        refine (tokens_ok s _ hsz (tabs_below HT.out HBa.out) [(3, 0, 1)] HF).mono ?_
        rintro e w3 ⟨A, c3, rfl, HTR, hB3⟩
        obtain ⟨g, rfl, hcell⟩ := HTR.out.2 (by decide)
        obtain ⟨x0, x1, x2⟩ := hcell 0 _ rfl
        simp only [Nat.zero_mul, Nat.zero_add] at x0 x1 x2
        clear hcell
        have HBw := Aside0.mk (HBa.out.trans (hB3.out.mono HBa.out.size))
        clear hB3
        simp only [List.length_singleton]
        go_wp2
        go_roundw
        case rel => exact ⟨61 + 1, m + 1, by go_num, by go_num, by omega, by omega, HM2, HBw⟩
        case measure => simp [intOf] <;> omega
      · have f1 : toksA 0 [44] = ([(3, 0, 1)], none) := by decide +kernel
        have f2 : goodB 44 = true := by decide +kernel
        have HF : Aside0 (toksA 0 (bs s) = ([(3, 0, 1)], none)) := ⟨by rw [HBS.out]; exact f1⟩
        have HM2 : Aside0 (cnt (44 + 1) = m + 1) := ⟨by rw [cnt_yes _ (f2), HM.out]⟩
        clear f1 f2
        have HBa : Aside0 (Below w.heap.size w (wr.alloc (.cells #[.int .u8 (44 : Int)] 5))) := ⟨HB.out.alloc HB.out.size _⟩
        replace hlit : (convert 33 9 (.slice (some ⟨wr.heap.size, 0, none⟩) 1 1)).run Tryd.prog (wr.alloc (.cells #[.int .u8 (44 : Int)] 5)) = .ok (.string s) (wr.alloc (.cells #[.int .u8 (44 : Int)] 5)) := hlit
        go_wp2_with fail
        refine (tokens_ok s _ hsz (tabs_below HT.out HBa.out) [(3, 0, 1)] HF).mono ?_
        rintro e w3 ⟨A, c3, rfl, HTR, hB3⟩
        obtain ⟨g, rfl, hcell⟩ := HTR.out.2 (by decide)
        obtain ⟨x0, x1, x2⟩ := hcell 0 _ rfl
        simp only [Nat.zero_mul, Nat.zero_add] at x0 x1 x2
        clear hcell
        have HBw := Aside0.mk (HBa.out.trans (hB3.out.mono HBa.out.size))
        clear hB3
        simp only [List.length_singleton]
        go_wp2
        go_roundw
        case rel => exact ⟨44 + 1, m + 1, by go_num, by go_num, by omega, by omega, HM2, HBw⟩
        case measure => simp [intOf] <;> omega
      · have f1 : toksA 0 [95] = ([(1, 0, 1)], none) := by decide +kernel
        have f2 : goodB 95 = true := by decide +kernel
        have HF : Aside0 (toksA 0 (bs s) = ([(1, 0, 1)], none)) := ⟨by rw [HBS.out]; exact f1⟩
        have HM2 : Aside0 (cnt (95 + 1) = m + 1) := ⟨by rw [cnt_yes _ (f2), HM.out]⟩
        clear f1 f2
        have HBa : Aside0 (Below w.heap.size w (wr.alloc (.cells #[.int .u8 (95 : Int)] 5))) := ⟨HB.out.alloc HB.out.size _⟩
        replace hlit : (convert 33 9 (.slice (some ⟨wr.heap.size, 0, none⟩) 1 1)).run Tryd.prog (wr.alloc (.cells #[.int .u8 (95 : Int)] 5)) = .ok (.string s) (wr.alloc (.cells #[.int .u8 (95 : Int)] 5)) := hlit
        go_wp2_with fail
        refine (tokens_ok s _ hsz (tabs_below HT.out HBa.out) [(1, 0, 1)] HF).mono ?_
        rintro e w3 ⟨A, c3, rfl, HTR, hB3⟩
        obtain ⟨g, rfl, hcell⟩ := HTR.out.2 (by decide)
        obtain ⟨x0, x1, x2⟩ := hcell 0 _ rfl
        simp only [Nat.zero_mul, Nat.zero_add] at x0 x1 x2
        clear hcell
        have HBw := Aside0.mk (HBa.out.trans (hB3.out.mono HBa.out.size))
        clear hB3
        simp only [List.length_singleton]
        go_wp2
        go_roundw
        case rel => exact ⟨95 + 1, m + 1, by go_num, by go_num, by omega, by omega, HM2, HBw⟩
        case measure => simp [intOf] <;> omega
      · have u0 : decide ((97 : Int) ≤ (c : Int)) = true := decide_eq_true (by omega)
        have v0 : decide (97 ≤ c) = true := decide_eq_true (by omega)
        have u1 : decide ((65 : Int) ≤ (c : Int)) = true := decide_eq_true (by omega)
        have v1 : decide (65 ≤ c) = true := decide_eq_true (by omega)
        have u2 : decide ((48 : Int) ≤ (c : Int)) = true := decide_eq_true (by omega)
        have v2 : decide (48 ≤ c) = true := decide_eq_true (by omega)
        have u3 : decide ((c : Int) ≤ (122 : Int)) = true := decide_eq_true (by omega)
        have v3 : decide (c ≤ 122) = true := decide_eq_true (by omega)
        have u4 : decide ((c : Int) ≤ (90 : Int)) = false := decide_eq_false (by omega)
        have v4 : decide (c ≤ 90) = false := decide_eq_false (by omega)
        have u5 : decide ((c : Int) ≤ (57 : Int)) = false := decide_eq_false (by omega)
        have v5 : decide (c ≤ 57) = false := decide_eq_false (by omega)
        have u6 : ((c : Int) == 95) = false := beq_eq_false_iff_ne.2 (by omega)
        have u7 : ((c : Int) == 32) = false := beq_eq_false_iff_ne.2 (by omega)
        have u8 : ((c : Int) == 9) = false := beq_eq_false_iff_ne.2 (by omega)
        have u9 : ((c : Int) == 13) = false := beq_eq_false_iff_ne.2 (by omega)
        have u10 : ((c : Int) == 10) = false := beq_eq_false_iff_ne.2 (by omega)
        have u11 : ((c : Int) == 123) = false := beq_eq_false_iff_ne.2 (by omega)
        have u12 : ((c : Int) == 125) = false := beq_eq_false_iff_ne.2 (by omega)
        have u13 : ((c : Int) == 40) = false := beq_eq_false_iff_ne.2 (by omega)
        have u14 : ((c : Int) == 41) = false := beq_eq_false_iff_ne.2 (by omega)
        have u15 : ((c : Int) == 59) = false := beq_eq_false_iff_ne.2 (by omega)
        have u16 : ((c : Int) == 61) = false := beq_eq_false_iff_ne.2 (by omega)
        have u17 : ((c : Int) == 44) = false := beq_eq_false_iff_ne.2 (by omega)
        have hall : ∀ c : Nat, c < 123 → (c < 97 ∨ (toksA 0 [c] = ([(1, 0, 1)], none) ∧ goodB c = true)) := by decide +kernel
        have hP : toksA 0 [c] = ([(1, 0, 1)], none) ∧ goodB c = true := by
          have h9 := hall c (by omega)
          replace h9 := h9.resolve_left (by omega)
          exact h9
        obtain ⟨f1, f2⟩ := hP
        clear hall
        have HF : Aside0 (toksA 0 (bs s) = ([(1, 0, 1)], none)) := ⟨by rw [HBS.out]; exact f1⟩
        have HM2 : Aside0 (cnt (c + 1) = m + 1) := ⟨by rw [cnt_yes _ (f2), HM.out]⟩
        clear f1 f2
        go_wp2_with fail
        refine (tokens_ok s _ hsz (tabs_below HT.out HBa.out) [(1, 0, 1)] HF).mono ?_
        rintro e w3 ⟨A, c3, rfl, HTR, hB3⟩
        obtain ⟨g, rfl, hcell⟩ := HTR.out.2 (by decide)
        obtain ⟨x0, x1, x2⟩ := hcell 0 _ rfl
        simp only [Nat.zero_mul, Nat.zero_add] at x0 x1 x2
        clear hcell
        have HBw := Aside0.mk (HBa.out.trans (hB3.out.mono HBa.out.size))
        clear hB3
        simp only [List.length_singleton]
        go_wp2
        go_roundw
        case rel => exact ⟨c + 1, m + 1, by go_num, by go_num, by omega, by omega, HM2, HBw⟩
        case measure => simp [intOf] <;> omega
      · have u0 : decide ((97 : Int) ≤ (c : Int)) = false := decide_eq_false (by omega)
        have v0 : decide (97 ≤ c) = false := decide_eq_false (by omega)
        have u1 : decide ((65 : Int) ≤ (c : Int)) = true := decide_eq_true (by omega)
        have v1 : decide (65 ≤ c) = true := decide_eq_true (by omega)
        have u2 : decide ((48 : Int) ≤ (c : Int)) = true := decide_eq_true (by omega)
        have v2 : decide (48 ≤ c) = true := decide_eq_true (by omega)
        have u3 : decide ((c : Int) ≤ (122 : Int)) = true := decide_eq_true (by omega)
        have v3 : decide (c ≤ 122) = true := decide_eq_true (by omega)
        have u4 : decide ((c : Int) ≤ (90 : Int)) = true := decide_eq_true (by omega)
        have v4 : decide (c ≤ 90) = true := decide_eq_true (by omega)
        have u5 : decide ((c : Int) ≤ (57 : Int)) = false := decide_eq_false (by omega)
        have v5 : decide (c ≤ 57) = false := decide_eq_false (by omega)
        have u6 : ((c : Int) == 95) = false := beq_eq_false_iff_ne.2 (by omega)
        have u7 : ((c : Int) == 32) = false := beq_eq_false_iff_ne.2 (by omega)
        have u8 : ((c : Int) == 9) = false := beq_eq_false_iff_ne.2 (by omega)
        have u9 : ((c : Int) == 13) = false := beq_eq_false_iff_ne.2 (by omega)
        have u10 : ((c : Int) == 10) = false := beq_eq_false_iff_ne.2 (by omega)
        have u11 : ((c : Int) == 123) = false := beq_eq_false_iff_ne.2 (by omega)
        have u12 : ((c : Int) == 125) = false := beq_eq_false_iff_ne.2 (by omega)
        have u13 : ((c : Int) == 40) = false := beq_eq_false_iff_ne.2 (by omega)
        have u14 : ((c : Int) == 41) = false := beq_eq_false_iff_ne.2 (by omega)
        have u15 : ((c : Int) == 59) = false := beq_eq_false_iff_ne.2 (by omega)
        have u16 : ((c : Int) == 61) = false := beq_eq_false_iff_ne.2 (by omega)
        have u17 : ((c : Int) == 44) = false := beq_eq_false_iff_ne.2 (by omega)
        have hall : ∀ c : Nat, c < 91 → (c < 65 ∨ (toksA 0 [c] = ([(1, 0, 1)], none) ∧ goodB c = true)) := by decide +kernel
        have hP : toksA 0 [c] = ([(1, 0, 1)], none) ∧ goodB c = true := by
          have h9 := hall c (by omega)
          replace h9 := h9.resolve_left (by omega)
          exact h9
        obtain ⟨f1, f2⟩ := hP
        clear hall
        have HF : Aside0 (toksA 0 (bs s) = ([(1, 0, 1)], none)) := ⟨by rw [HBS.out]; exact f1⟩
        have HM2 : Aside0 (cnt (c + 1) = m + 1) := ⟨by rw [cnt_yes _ (f2), HM.out]⟩
        clear f1 f2
        go_wp2_with fail
        refine (tokens_ok s _ hsz (tabs_below HT.out HBa.out) [(1, 0, 1)] HF).mono ?_
        rintro e w3 ⟨A, c3, rfl, HTR, hB3⟩
        obtain ⟨g, rfl, hcell⟩ := HTR.out.2 (by decide)
        obtain ⟨x0, x1, x2⟩ := hcell 0 _ rfl
        simp only [Nat.zero_mul, Nat.zero_add] at x0 x1 x2
        clear hcell
        have HBw := Aside0.mk (HBa.out.trans (hB3.out.mono HBa.out.size))
        clear hB3
        simp only [List.length_singleton]
        go_wp2
        go_roundw
        case rel => exact ⟨c + 1, m + 1, by go_num, by go_num, by omega, by omega, HM2, HBw⟩
        case measure => simp [intOf] <;> omega
      · have u0 : decide ((97 : Int) ≤ (c : Int)) = false := decide_eq_false (by omega)
        have v0 : decide (97 ≤ c) = false := decide_eq_false (by omega)
        have u1 : decide ((65 : Int) ≤ (c : Int)) = false := decide_eq_false (by omega)
        have v1 : decide (65 ≤ c) = false := decide_eq_false (by omega)
        have u2 : decide ((48 : Int) ≤ (c : Int)) = true := decide_eq_true (by omega)
        have v2 : decide (48 ≤ c) = true := decide_eq_true (by omega)
        have u3 : decide ((c : Int) ≤ (122 : Int)) = true := decide_eq_true (by omega)
        have v3 : decide (c ≤ 122) = true := decide_eq_true (by omega)
        have u4 : decide ((c : Int) ≤ (90 : Int)) = true := decide_eq_true (by omega)
        have v4 : decide (c ≤ 90) = true := decide_eq_true (by omega)
        have u5 : decide ((c : Int) ≤ (57 : Int)) = true := decide_eq_true (by omega)
        have v5 : decide (c ≤ 57) = true := decide_eq_true (by omega)
        have u6 : ((c : Int) == 95) = false := beq_eq_false_iff_ne.2 (by omega)
        have u7 : ((c : Int) == 32) = false := beq_eq_false_iff_ne.2 (by omega)
        have u8 : ((c : Int) == 9) = false := beq_eq_false_iff_ne.2 (by omega)
        have u9 : ((c : Int) == 13) = false := beq_eq_false_iff_ne.2 (by omega)
        have u10 : ((c : Int) == 10) = false := beq_eq_false_iff_ne.2 (by omega)
        have u11 : ((c : Int) == 123) = false := beq_eq_false_iff_ne.2 (by omega)
        have u12 : ((c : Int) == 125) = false := beq_eq_false_iff_ne.2 (by omega)
        have u13 : ((c : Int) == 40) = false := beq_eq_false_iff_ne.2 (by omega)
        have u14 : ((c : Int) == 41) = false := beq_eq_false_iff_ne.2 (by omega)
        have u15 : ((c : Int) == 59) = false := beq_eq_false_iff_ne.2 (by omega)
        have u16 : ((c : Int) == 61) = false := beq_eq_false_iff_ne.2 (by omega)
        have u17 : ((c : Int) == 44) = false := beq_eq_false_iff_ne.2 (by omega)
        have hall : ∀ c : Nat, c < 58 → (c < 48 ∨ (toksA 0 [c] = ([(2, 0, 1)], none) ∧ goodB c = true)) := by decide +kernel
        have hP : toksA 0 [c] = ([(2, 0, 1)], none) ∧ goodB c = true := by
          have h9 := hall c (by omega)
          replace h9 := h9.resolve_left (by omega)
          exact h9
        obtain ⟨f1, f2⟩ := hP
        clear hall
        have HF : Aside0 (toksA 0 (bs s) = ([(2, 0, 1)], none)) := ⟨by rw [HBS.out]; exact f1⟩
        have HM2 : Aside0 (cnt (c + 1) = m + 1) := ⟨by rw [cnt_yes _ (f2), HM.out]⟩
        clear f1 f2
        go_wp2_with fail
        refine (tokens_ok s _ hsz (tabs_below HT.out HBa.out) [(2, 0, 1)] HF).mono ?_
        rintro e w3 ⟨A, c3, rfl, HTR, hB3⟩
        obtain ⟨g, rfl, hcell⟩ := HTR.out.2 (by decide)
        obtain ⟨x0, x1, x2⟩ := hcell 0 _ rfl
        simp only [Nat.zero_mul, Nat.zero_add] at x0 x1 x2
        clear hcell
        have HBw := Aside0.mk (HBa.out.trans (hB3.out.mono HBa.out.size))
        clear hB3
        simp only [List.length_singleton]
        go_wp2
        go_roundw
        case rel => exact ⟨c + 1, m + 1, by go_num, by go_num, by omega, by omega, HM2, HBw⟩
        case measure => simp [intOf] <;> omega
      · have u0 : decide ((97 : Int) ≤ (c : Int)) = false := decide_eq_false (by omega)
        have v0 : decide (97 ≤ c) = false := decide_eq_false (by omega)
        have u1 : decide ((65 : Int) ≤ (c : Int)) = false := decide_eq_false (by omega)
        have v1 : decide (65 ≤ c) = false := decide_eq_false (by omega)
        have u2 : decide ((48 : Int) ≤ (c : Int)) = false := decide_eq_false (by omega)
        have v2 : decide (48 ≤ c) = false := decide_eq_false (by omega)
        have u3 : decide ((c : Int) ≤ (122 : Int)) = true := decide_eq_true (by omega)
        have v3 : decide (c ≤ 122) = true := decide_eq_true (by omega)
        have u4 : decide ((c : Int) ≤ (90 : Int)) = true := decide_eq_true (by omega)
        have v4 : decide (c ≤ 90) = true := decide_eq_true (by omega)
        have u5 : decide ((c : Int) ≤ (57 : Int)) = true := decide_eq_true (by omega)
        have v5 : decide (c ≤ 57) = true := decide_eq_true (by omega)
        have u6 : ((c : Int) == 95) = false := beq_eq_false_iff_ne.2 (by omega)
        have u7 : ((c : Int) == 32) = false := beq_eq_false_iff_ne.2 (by omega)
        have u8 : ((c : Int) == 9) = false := beq_eq_false_iff_ne.2 (by omega)
        have u9 : ((c : Int) == 13) = false := beq_eq_false_iff_ne.2 (by omega)
        have u10 : ((c : Int) == 10) = false := beq_eq_false_iff_ne.2 (by omega)
        have u11 : ((c : Int) == 123) = false := beq_eq_false_iff_ne.2 (by omega)
        have u12 : ((c : Int) == 125) = false := beq_eq_false_iff_ne.2 (by omega)
        have u13 : ((c : Int) == 40) = false := beq_eq_false_iff_ne.2 (by omega)
        have u14 : ((c : Int) == 41) = false := beq_eq_false_iff_ne.2 (by omega)
        have u15 : ((c : Int) == 59) = false := beq_eq_false_iff_ne.2 (by omega)
        have u16 : ((c : Int) == 61) = false := beq_eq_false_iff_ne.2 (by omega)
        have u17 : ((c : Int) == 44) = false := beq_eq_false_iff_ne.2 (by omega)
        have hall : ∀ c : Nat, c < 48 → (c < 0 ∨ ([32, 9, 13, 10, 40, 41, 44] : List Nat).contains c = true ∨ (toksA 0 [c] = ([], some (0, 5)) ∧ goodB c = false)) := by decide +kernel
        have hP : toksA 0 [c] = ([], some (0, 5)) ∧ goodB c = false := by
          have h9 := hall c (by omega)
          replace h9 := h9.resolve_left (by omega)
          replace h9 := h9.resolve_left (by simp; omega)
          exact h9
        obtain ⟨f1, f2⟩ := hP
        clear hall
        have HF : Aside0 (toksA 0 (bs s) = ([], some (0, 5))) := ⟨by rw [HBS.out]; exact f1⟩
        have HM2 : Aside0 (cnt (c + 1) = m) := ⟨by rw [cnt_no _ (f2), HM.out]⟩
        clear f1 f2
        go_wp2_with fail
        refine (tokens_err s _ hsz (tabs_below HT.out HBa.out) [] 0 5 HF).mono ?_
        rintro e w3 ⟨rfl, hB3⟩
        have HBw := Aside0.mk (HBa.out.trans (hB3.out.mono HBa.out.size))
        clear hB3
        go_wp2
        go_roundw
        case rel => exact ⟨c + 1, m, by go_num, by go_num, by omega, by omega, HM2, HBw⟩
        case measure => simp [intOf] <;> omega
      · have u0 : decide ((97 : Int) ≤ (c : Int)) = false := decide_eq_false (by omega)
        have v0 : decide (97 ≤ c) = false := decide_eq_false (by omega)
        have u1 : decide ((65 : Int) ≤ (c : Int)) = false := decide_eq_false (by omega)
        have v1 : decide (65 ≤ c) = false := decide_eq_false (by omega)
        have u2 : decide ((48 : Int) ≤ (c : Int)) = true := decide_eq_true (by omega)
        have v2 : decide (48 ≤ c) = true := decide_eq_true (by omega)
        have u3 : decide ((c : Int) ≤ (122 : Int)) = true := decide_eq_true (by omega)
        have v3 : decide (c ≤ 122) = true := decide_eq_true (by omega)
        have u4 : decide ((c : Int) ≤ (90 : Int)) = true := decide_eq_true (by omega)
        have v4 : decide (c ≤ 90) = true := decide_eq_true (by omega)
        have u5 : decide ((c : Int) ≤ (57 : Int)) = false := decide_eq_false (by omega)
        have v5 : decide (c ≤ 57) = false := decide_eq_false (by omega)
        have u6 : ((c : Int) == 95) = false := beq_eq_false_iff_ne.2 (by omega)
        have u7 : ((c : Int) == 32) = false := beq_eq_false_iff_ne.2 (by omega)
        have u8 : ((c : Int) == 9) = false := beq_eq_false_iff_ne.2 (by omega)
        have u9 : ((c : Int) == 13) = false := beq_eq_false_iff_ne.2 (by omega)
        have u10 : ((c : Int) == 10) = false := beq_eq_false_iff_ne.2 (by omega)
        have u11 : ((c : Int) == 123) = false := beq_eq_false_iff_ne.2 (by omega)
        have u12 : ((c : Int) == 125) = false := beq_eq_false_iff_ne.2 (by omega)
        have u13 : ((c : Int) == 40) = false := beq_eq_false_iff_ne.2 (by omega)
        have u14 : ((c : Int) == 41) = false := beq_eq_false_iff_ne.2 (by omega)
        have u15 : ((c : Int) == 59) = false := beq_eq_false_iff_ne.2 (by omega)
        have u16 : ((c : Int) == 61) = false := beq_eq_false_iff_ne.2 (by omega)
        have u17 : ((c : Int) == 44) = false := beq_eq_false_iff_ne.2 (by omega)
        have hall : ∀ c : Nat, c < 65 → (c < 58 ∨ ([59, 61] : List Nat).contains c = true ∨ (toksA 0 [c] = ([], some (0, 5)) ∧ goodB c = false)) := by decide +kernel
        have hP : toksA 0 [c] = ([], some (0, 5)) ∧ goodB c = false := by
          have h9 := hall c (by omega)
          replace h9 := h9.resolve_left (by omega)
          replace h9 := h9.resolve_left (by simp; omega)
          exact h9
        obtain ⟨f1, f2⟩ := hP
        clear hall
        have HF : Aside0 (toksA 0 (bs s) = ([], some (0, 5))) := ⟨by rw [HBS.out]; exact f1⟩
        have HM2 : Aside0 (cnt (c + 1) = m) := ⟨by rw [cnt_no _ (f2), HM.out]⟩
        clear f1 f2
        go_wp2_with fail
        refine (tokens_err s _ hsz (tabs_below HT.out HBa.out) [] 0 5 HF).mono ?_
        rintro e w3 ⟨rfl, hB3⟩
        have HBw := Aside0.mk (HBa.out.trans (hB3.out.mono HBa.out.size))
        clear hB3
        go_wp2
        go_roundw
        case rel => exact ⟨c + 1, m, by go_num, by go_num, by omega, by omega, HM2, HBw⟩
        case measure => simp [intOf] <;> omega
      · have u0 : decide ((97 : Int) ≤ (c : Int)) = false := decide_eq_false (by omega)
        have v0 : decide (97 ≤ c) = false := decide_eq_false (by omega)
        have u1 : decide ((65 : Int) ≤ (c : Int)) = true := decide_eq_true (by omega)
        have v1 : decide (65 ≤ c) = true := decide_eq_true (by omega)
        have u2 : decide ((48 : Int) ≤ (c : Int)) = true := decide_eq_true (by omega)
        have v2 : decide (48 ≤ c) = true := decide_eq_true (by omega)
        have u3 : decide ((c : Int) ≤ (122 : Int)) = true := decide_eq_true (by omega)
        have v3 : decide (c ≤ 122) = true := decide_eq_true (by omega)
        have u4 : decide ((c : Int) ≤ (90 : Int)) = false := decide_eq_false (by omega)
        have v4 : decide (c ≤ 90) = false := decide_eq_false (by omega)
        have u5 : decide ((c : Int) ≤ (57 : Int)) = false := decide_eq_false (by omega)
        have v5 : decide (c ≤ 57) = false := decide_eq_false (by omega)
        have u6 : ((c : Int) == 95) = false := beq_eq_false_iff_ne.2 (by omega)
        have u7 : ((c : Int) == 32) = false := beq_eq_false_iff_ne.2 (by omega)
        have u8 : ((c : Int) == 9) = false := beq_eq_false_iff_ne.2 (by omega)
        have u9 : ((c : Int) == 13) = false := beq_eq_false_iff_ne.2 (by omega)
        have u10 : ((c : Int) == 10) = false := beq_eq_false_iff_ne.2 (by omega)
        have u11 : ((c : Int) == 123) = false := beq_eq_false_iff_ne.2 (by omega)
        have u12 : ((c : Int) == 125) = false := beq_eq_false_iff_ne.2 (by omega)
        have u13 : ((c : Int) == 40) = false := beq_eq_false_iff_ne.2 (by omega)
        have u14 : ((c : Int) == 41) = false := beq_eq_false_iff_ne.2 (by omega)
        have u15 : ((c : Int) == 59) = false := beq_eq_false_iff_ne.2 (by omega)
        have u16 : ((c : Int) == 61) = false := beq_eq_false_iff_ne.2 (by omega)
        have u17 : ((c : Int) == 44) = false := beq_eq_false_iff_ne.2 (by omega)
        have hall : ∀ c : Nat, c < 97 → (c < 91 ∨ ([95] : List Nat).contains c = true ∨ (toksA 0 [c] = ([], some (0, 5)) ∧ goodB c = false)) := by decide +kernel
        have hP : toksA 0 [c] = ([], some (0, 5)) ∧ goodB c = false := by
          have h9 := hall c (by omega)
          replace h9 := h9.resolve_left (by omega)
          replace h9 := h9.resolve_left (by simp; omega)
          exact h9
        obtain ⟨f1, f2⟩ := hP
        clear hall
        have HF : Aside0 (toksA 0 (bs s) = ([], some (0, 5))) := ⟨by rw [HBS.out]; exact f1⟩
        have HM2 : Aside0 (cnt (c + 1) = m) := ⟨by rw [cnt_no _ (f2), HM.out]⟩
        clear f1 f2
        go_wp2_with fail
        refine (tokens_err s _ hsz (tabs_below HT.out HBa.out) [] 0 5 HF).mono ?_
        rintro e w3 ⟨rfl, hB3⟩
        have HBw := Aside0.mk (HBa.out.trans (hB3.out.mono HBa.out.size))
        clear hB3
        go_wp2
        go_roundw
        case rel => exact ⟨c + 1, m, by go_num, by go_num, by omega, by omega, HM2, HBw⟩
        case measure => simp [intOf] <;> omega
      · have u0 : decide ((97 : Int) ≤ (c : Int)) = true := decide_eq_true (by omega)
        have v0 : decide (97 ≤ c) = true := decide_eq_true (by omega)
        have u1 : decide ((65 : Int) ≤ (c : Int)) = true := decide_eq_true (by omega)
        have v1 : decide (65 ≤ c) = true := decide_eq_true (by omega)
        have u2 : decide ((48 : Int) ≤ (c : Int)) = true := decide_eq_true (by omega)
        have v2 : decide (48 ≤ c) = true := decide_eq_true (by omega)
        have u3 : decide ((c : Int) ≤ (122 : Int)) = false := decide_eq_false (by omega)
        have v3 : decide (c ≤ 122) = false := decide_eq_false (by omega)
        have u4 : decide ((c : Int) ≤ (90 : Int)) = false := decide_eq_false (by omega)
        have v4 : decide (c ≤ 90) = false := decide_eq_false (by omega)
        have u5 : decide ((c : Int) ≤ (57 : Int)) = false := decide_eq_false (by omega)
        have v5 : decide (c ≤ 57) = false := decide_eq_false (by omega)
        have u6 : ((c : Int) == 95) = false := beq_eq_false_iff_ne.2 (by omega)
        have u7 : ((c : Int) == 32) = false := beq_eq_false_iff_ne.2 (by omega)
        have u8 : ((c : Int) == 9) = false := beq_eq_false_iff_ne.2 (by omega)
        have u9 : ((c : Int) == 13) = false := beq_eq_false_iff_ne.2 (by omega)
        have u10 : ((c : Int) == 10) = false := beq_eq_false_iff_ne.2 (by omega)
        have u11 : ((c : Int) == 123) = false := beq_eq_false_iff_ne.2 (by omega)
        have u12 : ((c : Int) == 125) = false := beq_eq_false_iff_ne.2 (by omega)
        have u13 : ((c : Int) == 40) = false := beq_eq_false_iff_ne.2 (by omega)
        have u14 : ((c : Int) == 41) = false := beq_eq_false_iff_ne.2 (by omega)
        have u15 : ((c : Int) == 59) = false := beq_eq_false_iff_ne.2 (by omega)
        have u16 : ((c : Int) == 61) = false := beq_eq_false_iff_ne.2 (by omega)
        have u17 : ((c : Int) == 44) = false := beq_eq_false_iff_ne.2 (by omega)
        have hall : ∀ c : Nat, c < 128 → (c < 123 ∨ ([123, 125] : List Nat).contains c = true ∨ (toksA 0 [c] = ([], some (0, 5)) ∧ goodB c = false)) := by decide +kernel
        have hP : toksA 0 [c] = ([], some (0, 5)) ∧ goodB c = false := by
          have h9 := hall c (by omega)
          replace h9 := h9.resolve_left (by omega)
          replace h9 := h9.resolve_left (by simp; omega)
          exact h9
        obtain ⟨f1, f2⟩ := hP
        clear hall
        have HF : Aside0 (toksA 0 (bs s) = ([], some (0, 5))) := ⟨by rw [HBS.out]; exact f1⟩
        have HM2 : Aside0 (cnt (c + 1) = m) := ⟨by rw [cnt_no _ (f2), HM.out]⟩
        clear f1 f2
        go_wp2_with fail
        refine (tokens_err s _ hsz (tabs_below HT.out HBa.out) [] 0 5 HF).mono ?_
        rintro e w3 ⟨rfl, hB3⟩
        have HBw := Aside0.mk (HBa.out.trans (hB3.out.mono HBa.out.size))
        clear hB3
        go_wp2
        go_roundw
        case rel => exact ⟨c + 1, m, by go_num, by go_num, by omega, by omega, HM2, HBw⟩
        case measure => simp [intOf] <;> omega
    · have hc128 : c = 128 := by omega
      have hm70 : m = 70 := by rw [← HM.out, hc128, cnt_all]
      subst hc128 hm70
      go_wp2_with fail
      refine (awake_any _ (tabs_below HT.out HB.out)).mono ?_
      rintro e w4 ⟨rfl, hB4⟩
      have HB4 := Aside0.mk (HB.out.trans (hB4.mono HB.out.size))
      clear hB4
      go_wp2
      go_ret
      exact ⟨rfl, HB4.out⟩
end Go.Proofs.YteipadogmdppgaaDoor
