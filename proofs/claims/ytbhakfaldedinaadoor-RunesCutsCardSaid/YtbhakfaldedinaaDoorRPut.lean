/- runes.Put and the reference's. -/
import Derived.Test.YtbhakfaldedinaaDoorRLetter
import Derived.Test.YtbhakfaldedinaaDoorShelf
namespace Go.Proofs.YtbhakfaldedinaaDoor
set_option linter.unusedVariables false
set_option linter.unusedSimpArgs false
open Go.RowKit Go.Proofs.YtbhakfaldedinaaDoorW.PrintWords

/-- A rune's bytes. -/
def putF (c : Nat) : List Int :=
  if c < 128 then [(c : Int)]
  else if c < 2048 then [192 + (c : Int) / 64, 128 + (c : Int) % 64]
  else if c < 65536 then [224 + (c : Int) / 4096, 128 + (c : Int) / 64 % 64, 128 + (c : Int) % 64]
  else [240 + (c : Int) / 262144, 128 + (c : Int) / 4096 % 64, 128 + (c : Int) / 64 % 64, 128 + (c : Int) % 64]
def okR (r : Int) : Prop := (0 ≤ r ∧ r < 55296) ∨ (57343 < r ∧ r ≤ 1114111)
instance (r : Int) : Decidable (okR r) := by unfold okR; exact inferInstance
def putS (r : Int) : ByteArray := if okR r then strOfNums (putF r.toNat) else ByteArray.empty

theorem valid_ok (r : Int) : Utf8.valid r = decide (okR r) := by
  have : Utf8.valid r = true ↔ okR r := by
    unfold Utf8.valid okR
    simp only [Bool.or_eq_true, Bool.and_eq_true, decide_eq_true_eq]
    omega
  cases h : Utf8.valid r with
  | true => exact (decide_eq_true (this.1 h)).symm
  | false => exact (decide_eq_false (fun h2 => by rw [this.2 h2] at h; cases h)).symm
theorem encode_put (c : Nat) (h : okR (c : Int)) : Utf8.encode (c : Int) = strOfNums (putF c) := by
  have e0 : ((c : Int)).toNat = c := by omega
  have e1 : (192 + (c : Int) / 64).toNat = 192 + c / 64 := by omega
  have e2 : (128 + (c : Int) % 64).toNat = 128 + c % 64 := by omega
  have e3 : (224 + (c : Int) / 4096).toNat = 224 + c / 4096 := by omega
  have e4 : (128 + (c : Int) / 64 % 64).toNat = 128 + c / 64 % 64 := by omega
  have e5 : (240 + (c : Int) / 262144).toNat = 240 + c / 262144 := by omega
  have e6 : (128 + (c : Int) / 4096 % 64).toNat = 128 + c / 4096 % 64 := by omega
  unfold Utf8.encode putF
  rw [valid_ok, decide_eq_true h]
  simp only [if_true, Int.toNat_natCast]
  split
  · simp only [strOfNums, List.map_cons, List.map_nil, e0]
  · split
    · simp only [strOfNums, List.map_cons, List.map_nil, e1, e2]
    · split
      · simp only [strOfNums, List.map_cons, List.map_nil, e2, e3, e4]
      · simp only [strOfNums, List.map_cons, List.map_nil, e2, e4, e5, e6]

theorem put_any (r : Int) (w : World) (h0 : -2147483648 ≤ r ∧ r ≤ 2147483647) :
    Calls Tryd.prog 22 #[.int .i32 r] w fun e w' => e = .returned (.string (putS r)) ∧ w = w' := by
  by_cases h : okR r
  · have hv : Lib.validRune r = true := by unfold Lib.validRune; exact decide_eq_true (by unfold okR at h; omega)
    obtain ⟨c, rfl⟩ := Int.eq_ofNat_of_zero_le (show 0 ≤ r by unfold okR at h; omega)
    have HE := Aside0.mk (show Utf8.encode (c : Int) = putS (c : Int) by rw [encode_put c h, putS, if_pos h]; rfl)
    clear h
    go_enter Tryd.func22, Tryd.ntmps22
    go_wp2_with fail
    refine (Tryd.utf8_ValidRune (c : Int) _).mono ?_
    rintro e w1 ⟨rfl, rfl⟩
    go_wp2_with fail
    go_ret
    rw [← HE.out]
    exact ⟨rfl, rfl⟩
  · have hv : Lib.validRune r = false := by unfold Lib.validRune; exact decide_eq_false (by unfold okR at h; omega)
    rw [putS, if_neg h]
    clear h
    go_enter Tryd.func22, Tryd.ntmps22
    go_wp2_with fail
    refine (Tryd.utf8_ValidRune r _).mono ?_
    rintro e w1 ⟨rfl, rfl⟩
    go_wp2
    go_ret
    exact ⟨rfl, rfl⟩

set_option maxRecDepth 100000 in
theorem rput_1 (c : Nat) (w : World) (h : c < 128) :
    Calls Tryd.prog 23 #[.int .i32 (c : Int)] w fun e w' => e = .returned (.string (strOfNums [(c : Int)])) ∧ Below w.heap.size w w' := by
  have d0 : decide ((c : Int) < 0) = false := decide_eq_false (by omega)
  have d1 : decide (1114111 < (c : Int)) = false := decide_eq_false (by omega)
  have d2 : decide (55296 ≤ (c : Int)) = false := decide_eq_false (by omega)
  have d3 : decide ((c : Int) < 128) = true := decide_eq_true (by omega)
  have hlit : (convert 42 9 (.slice (some ⟨w.heap.size, 0, none⟩) 1 1)).run Tryd.prog (w.alloc (.cells #[.int .u8 ((c : Int))] 5)) = .ok (.string (strOfNums [(c : Int)])) (w.alloc (.cells #[.int .u8 ((c : Int))] 5)) :=
    str_own (own_lit w w.heap.size 5 .u8 [(c : Int)] (Nat.le_refl _) (by simp))
  have hB := Aside0.mk (show Below w.heap.size w (w.alloc (.cells #[.int .u8 ((c : Int))] 5)) from (Below.refl _ _).alloc (Nat.le_refl _) _)
  go_enter Tryd.func23, Tryd.ntmps23
  go_wp2
  go_ret
  exact ⟨rfl, hB.out⟩

set_option maxRecDepth 100000 in
theorem rput_2 (c : Nat) (w : World) (h0 : 128 ≤ c) (h : c < 2048) :
    Calls Tryd.prog 23 #[.int .i32 (c : Int)] w fun e w' => e = .returned (.string (strOfNums [192 + (c : Int) / 64, 128 + (c : Int) % 64])) ∧ Below w.heap.size w w' := by
  have d0 : decide ((c : Int) < 0) = false := decide_eq_false (by omega)
  have d1 : decide (1114111 < (c : Int)) = false := decide_eq_false (by omega)
  have d2 : decide (55296 ≤ (c : Int)) = false := decide_eq_false (by omega)
  have d3 : decide ((c : Int) < 128) = false := decide_eq_false (by omega)
  have d4 : decide ((c : Int) < 2048) = true := decide_eq_true (by omega)
  have hlit : (convert 42 9 (.slice (some ⟨w.heap.size, 0, none⟩) 2 2)).run Tryd.prog (w.alloc (.cells #[.int .u8 (192 + (c : Int) / 64), .int .u8 (128 + (c : Int) % 64)] 5)) = .ok (.string (strOfNums [192 + (c : Int) / 64, 128 + (c : Int) % 64])) (w.alloc (.cells #[.int .u8 (192 + (c : Int) / 64), .int .u8 (128 + (c : Int) % 64)] 5)) :=
    str_own (own_lit w w.heap.size 5 .u8 [192 + (c : Int) / 64, 128 + (c : Int) % 64] (Nat.le_refl _) (by simp))
  have hB := Aside0.mk (show Below w.heap.size w (w.alloc (.cells #[.int .u8 (192 + (c : Int) / 64), .int .u8 (128 + (c : Int) % 64)] 5)) from (Below.refl _ _).alloc (Nat.le_refl _) _)
  go_enter Tryd.func23, Tryd.ntmps23
  go_wp2
  go_ret
  exact ⟨rfl, hB.out⟩

set_option maxRecDepth 100000 in
theorem rput_3a (c : Nat) (w : World) (h0 : 2048 ≤ c) (h : c < 55296) :
    Calls Tryd.prog 23 #[.int .i32 (c : Int)] w fun e w' => e = .returned (.string (strOfNums [224 + (c : Int) / 4096, 128 + (c : Int) / 64 % 64, 128 + (c : Int) % 64])) ∧ Below w.heap.size w w' := by
  have d0 : decide ((c : Int) < 0) = false := decide_eq_false (by omega)
  have d1 : decide (1114111 < (c : Int)) = false := decide_eq_false (by omega)
  have d2 : decide ((c : Int) < 128) = false := decide_eq_false (by omega)
  have d3 : decide ((c : Int) < 2048) = false := decide_eq_false (by omega)
  have d4 : decide ((c : Int) < 65536) = true := decide_eq_true (by omega)
  have d5 : decide (55296 ≤ (c : Int)) = false := decide_eq_false (by omega)
  have hlit : (convert 42 9 (.slice (some ⟨w.heap.size, 0, none⟩) 3 3)).run Tryd.prog (w.alloc (.cells #[.int .u8 (224 + (c : Int) / 4096), .int .u8 (128 + (c : Int) / 64 % 64), .int .u8 (128 + (c : Int) % 64)] 5)) = .ok (.string (strOfNums [224 + (c : Int) / 4096, 128 + (c : Int) / 64 % 64, 128 + (c : Int) % 64])) (w.alloc (.cells #[.int .u8 (224 + (c : Int) / 4096), .int .u8 (128 + (c : Int) / 64 % 64), .int .u8 (128 + (c : Int) % 64)] 5)) :=
    str_own (own_lit w w.heap.size 5 .u8 [224 + (c : Int) / 4096, 128 + (c : Int) / 64 % 64, 128 + (c : Int) % 64] (Nat.le_refl _) (by simp))
  have hB := Aside0.mk (show Below w.heap.size w (w.alloc (.cells #[.int .u8 (224 + (c : Int) / 4096), .int .u8 (128 + (c : Int) / 64 % 64), .int .u8 (128 + (c : Int) % 64)] 5)) from (Below.refl _ _).alloc (Nat.le_refl _) _)
  go_enter Tryd.func23, Tryd.ntmps23
  go_wp2
  go_ret
  exact ⟨rfl, hB.out⟩

set_option maxRecDepth 100000 in
theorem rput_3b (c : Nat) (w : World) (h0 : 57343 < c) (h : c < 65536) :
    Calls Tryd.prog 23 #[.int .i32 (c : Int)] w fun e w' => e = .returned (.string (strOfNums [224 + (c : Int) / 4096, 128 + (c : Int) / 64 % 64, 128 + (c : Int) % 64])) ∧ Below w.heap.size w w' := by
  have d0 : decide ((c : Int) < 0) = false := decide_eq_false (by omega)
  have d1 : decide (1114111 < (c : Int)) = false := decide_eq_false (by omega)
  have d2 : decide ((c : Int) < 128) = false := decide_eq_false (by omega)
  have d3 : decide ((c : Int) < 2048) = false := decide_eq_false (by omega)
  have d4 : decide ((c : Int) < 65536) = true := decide_eq_true (by omega)
  have d5 : decide (55296 ≤ (c : Int)) = true := decide_eq_true (by omega)
  have d6 : decide ((c : Int) ≤ 57343) = false := decide_eq_false (by omega)
  have hlit : (convert 42 9 (.slice (some ⟨w.heap.size, 0, none⟩) 3 3)).run Tryd.prog (w.alloc (.cells #[.int .u8 (224 + (c : Int) / 4096), .int .u8 (128 + (c : Int) / 64 % 64), .int .u8 (128 + (c : Int) % 64)] 5)) = .ok (.string (strOfNums [224 + (c : Int) / 4096, 128 + (c : Int) / 64 % 64, 128 + (c : Int) % 64])) (w.alloc (.cells #[.int .u8 (224 + (c : Int) / 4096), .int .u8 (128 + (c : Int) / 64 % 64), .int .u8 (128 + (c : Int) % 64)] 5)) :=
    str_own (own_lit w w.heap.size 5 .u8 [224 + (c : Int) / 4096, 128 + (c : Int) / 64 % 64, 128 + (c : Int) % 64] (Nat.le_refl _) (by simp))
  have hB := Aside0.mk (show Below w.heap.size w (w.alloc (.cells #[.int .u8 (224 + (c : Int) / 4096), .int .u8 (128 + (c : Int) / 64 % 64), .int .u8 (128 + (c : Int) % 64)] 5)) from (Below.refl _ _).alloc (Nat.le_refl _) _)
  go_enter Tryd.func23, Tryd.ntmps23
  go_wp2
  go_ret
  exact ⟨rfl, hB.out⟩

set_option maxRecDepth 100000 in
theorem rput_4 (c : Nat) (w : World) (h0 : 65536 ≤ c) (h : c < 1114112) :
    Calls Tryd.prog 23 #[.int .i32 (c : Int)] w fun e w' => e = .returned (.string (strOfNums [240 + (c : Int) / 262144, 128 + (c : Int) / 4096 % 64, 128 + (c : Int) / 64 % 64, 128 + (c : Int) % 64])) ∧ Below w.heap.size w w' := by
  have d0 : decide ((c : Int) < 0) = false := decide_eq_false (by omega)
  have d1 : decide (1114111 < (c : Int)) = false := decide_eq_false (by omega)
  have d2 : decide (55296 ≤ (c : Int)) = true := decide_eq_true (by omega)
  have d3 : decide ((c : Int) ≤ 57343) = false := decide_eq_false (by omega)
  have d4 : decide ((c : Int) < 128) = false := decide_eq_false (by omega)
  have d5 : decide ((c : Int) < 2048) = false := decide_eq_false (by omega)
  have d6 : decide ((c : Int) < 65536) = false := decide_eq_false (by omega)
  have hlit : (convert 42 9 (.slice (some ⟨w.heap.size, 0, none⟩) 4 4)).run Tryd.prog (w.alloc (.cells #[.int .u8 (240 + (c : Int) / 262144), .int .u8 (128 + (c : Int) / 4096 % 64), .int .u8 (128 + (c : Int) / 64 % 64), .int .u8 (128 + (c : Int) % 64)] 5)) = .ok (.string (strOfNums [240 + (c : Int) / 262144, 128 + (c : Int) / 4096 % 64, 128 + (c : Int) / 64 % 64, 128 + (c : Int) % 64])) (w.alloc (.cells #[.int .u8 (240 + (c : Int) / 262144), .int .u8 (128 + (c : Int) / 4096 % 64), .int .u8 (128 + (c : Int) / 64 % 64), .int .u8 (128 + (c : Int) % 64)] 5)) :=
    str_own (own_lit w w.heap.size 5 .u8 [240 + (c : Int) / 262144, 128 + (c : Int) / 4096 % 64, 128 + (c : Int) / 64 % 64, 128 + (c : Int) % 64] (Nat.le_refl _) (by simp))
  have hB := Aside0.mk (show Below w.heap.size w (w.alloc (.cells #[.int .u8 (240 + (c : Int) / 262144), .int .u8 (128 + (c : Int) / 4096 % 64), .int .u8 (128 + (c : Int) / 64 % 64), .int .u8 (128 + (c : Int) % 64)] 5)) from (Below.refl _ _).alloc (Nat.le_refl _) _)
  go_enter Tryd.func23, Tryd.ntmps23
  go_wp2
  go_ret
  exact ⟨rfl, hB.out⟩

set_option maxRecDepth 100000 in
theorem rput_bad (r : Int) (w : World) (hb : -2147483648 ≤ r ∧ r ≤ 2147483647) (h : ¬ okR r) :
    Calls Tryd.prog 23 #[.int .i32 r] w fun e w' => e = .returned (.string ByteArray.empty) ∧ w = w' := by
  have hw : wrap64 r = r := by unfold wrap64; omega
  by_cases h1 : r < 0
  · have d1 : decide (r < 0) = true := decide_eq_true h1
    clear h
    go_enter Tryd.func23, Tryd.ntmps23
    go_wp2
    go_ret
    exact ⟨rfl, rfl⟩
  · have d1 : decide (r < 0) = false := decide_eq_false h1
    by_cases h2 : 1114111 < r
    · have d2 : decide (1114111 < r) = true := decide_eq_true h2
      clear h
      go_enter Tryd.func23, Tryd.ntmps23
      go_wp2
      go_ret
      exact ⟨rfl, rfl⟩
    · have d2 : decide (1114111 < r) = false := decide_eq_false h2
      have d3 : decide (55296 ≤ r) = true := decide_eq_true (by unfold okR at h; omega)
      have d4 : decide (r ≤ 57343) = true := decide_eq_true (by unfold okR at h; omega)
      clear h
      go_enter Tryd.func23, Tryd.ntmps23
      go_wp2
      go_ret
      exact ⟨rfl, rfl⟩

theorem rput_any (r : Int) (w : World) (hb : -2147483648 ≤ r ∧ r ≤ 2147483647) :
    Calls Tryd.prog 23 #[.int .i32 r] w fun e w' => e = .returned (.string (putS r)) ∧ Below w.heap.size w w' := by
  by_cases h : okR r
  · have h' := h
    unfold okR at h'
    obtain ⟨c, rfl⟩ := Int.eq_ofNat_of_zero_le (show 0 ≤ r by omega)
    rw [putS, if_pos h, Int.toNat_natCast]
    by_cases h1 : c < 128
    · rw [putF, if_pos h1]; exact rput_1 c w h1
    · by_cases h2 : c < 2048
      · rw [putF, if_neg h1, if_pos h2]; exact rput_2 c w (by omega) h2
      · by_cases h3 : c < 65536
        · rw [putF, if_neg h1, if_neg h2, if_pos h3]
          by_cases h4 : c < 55296
          · exact rput_3a c w (by omega) h4
          · exact rput_3b c w (by omega) h3
        · rw [putF, if_neg h1, if_neg h2, if_neg h3]; exact rput_4 c w (by omega) (by omega)
  · rw [putS, if_neg h]
    exact (rput_bad r w hb h).mono fun _ _ ⟨h1, h2⟩ => ⟨h1, h2 ▸ Below.refl _ _⟩
end Go.Proofs.YtbhakfaldedinaaDoor
