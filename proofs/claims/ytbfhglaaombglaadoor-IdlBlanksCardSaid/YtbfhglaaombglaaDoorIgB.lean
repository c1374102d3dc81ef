/- Texts of the parser's walk, laid together. -/
import Derived.Test.YtbfhglaaombglaaDoorIgA
import Derived.IntWalk
/- The reference's Next: the walk. -/
namespace Go.Proofs.YtbfhglaaombglaaDoor
set_option linter.unusedVariables false
set_option linter.unusedSimpArgs false
open Go.RowKit Go.Proofs.YtbfhglaaombglaaDoorW.PrintWords

theorem rnext_out (s : ByteArray) (a : Int) (w : World) (hs : s.size ≤ 4611686018427387904) (h : a < 0 ∨ (s.size : Int) ≤ a) :
    Calls Tryd.prog 38 #[.string s, .int .i64 a] w fun e w' => e = .returned (.tuple #[.int .i32 0, .int .i64 0, .bool false]) ∧ w = w' := by
  by_cases h0 : a < 0
  · clear h
    go_enter Tryd.func38, Tryd.ntmps38
    go_wp2
    go_ret3
    exact ⟨rfl, rfl⟩
  · have h1 : (s.size : Int) ≤ a := by omega
    clear h
    go_enter Tryd.func38, Tryd.ntmps38
    go_wp2
    go_ret3
    exact ⟨rfl, rfl⟩

set_option maxRecDepth 100000 in
theorem rnext_low (s : ByteArray) (a x : Nat) (w : World) (hs : s.size ≤ 4611686018427387904) (ha : a < s.size) (hsi : (s[a]'ha).toNat = x) (h : x < 128) :
    Calls Tryd.prog 38 #[.string s, .int .i64 (a : Int)] w fun e w' => e = .returned (.tuple #[.int .i32 (x : Int), .int .i64 1, .bool true]) ∧ w = w' := by
  have hw : IntKind.i32.wrap (x : Int) = x := IntWalk.i32_in _ (by omega)
  go_enter Tryd.func38, Tryd.ntmps38
  go_wp2
  go_ret3
  exact ⟨rfl, rfl⟩

set_option maxRecDepth 100000 in
theorem rnext_none (s : ByteArray) (a x : Nat) (w : World) (hs : s.size ≤ 4611686018427387904) (ha : a < s.size) (hsi : (s[a]'ha).toNat = x) (hx : x < 256) (h : (128 ≤ x ∧ x < 192) ∨ 248 ≤ x) :
    Calls Tryd.prog 38 #[.string s, .int .i64 (a : Int)] w fun e w' => e = .returned (.tuple #[.int .i32 0, .int .i64 0, .bool false]) ∧ w = w' := by
  have c0 : decide ((x : Int) < 128) = false := decide_eq_false (by omega)
  by_cases h1 : x < 192
  · have c1 : decide (192 ≤ (x : Int)) = false := decide_eq_false (by omega)
    have c2 : decide (224 ≤ (x : Int)) = false := decide_eq_false (by omega)
    have c3 : decide (240 ≤ (x : Int)) = false := decide_eq_false (by omega)
    clear h
    go_enter Tryd.func38, Tryd.ntmps38
    go_wp2
    go_ret3
    exact ⟨rfl, rfl⟩
  · have e1 : decide (192 ≤ (x : Int)) = true := decide_eq_true (by omega)
    have e2 : decide (224 ≤ (x : Int)) = true := decide_eq_true (by omega)
    have e3 : decide (240 ≤ (x : Int)) = true := decide_eq_true (by omega)
    have d1 : decide ((x : Int) < 224) = false := decide_eq_false (by omega)
    have d2 : decide ((x : Int) < 240) = false := decide_eq_false (by omega)
    have d3 : decide ((x : Int) < 248) = false := decide_eq_false (by omega)
    clear h
    go_enter Tryd.func38, Tryd.ntmps38
    go_wp2
    go_ret3
    exact ⟨rfl, rfl⟩

theorem valF_lt (s : ByteArray) (a v0 : Nat) (h : v0 < 32) : ∀ k, valF s a v0 k < 32 * 64 ^ k := by
  intro k
  induction k with
  | zero => simpa [valF] using h
  | succ k ih =>
    have h1 : (tailF s (a + (k + 1))).toNat < 64 := by
      by_cases h2 : 0 ≤ tailF s (a + (k + 1))
      · rw [tail_val s _ h2]; omega
      · omega
    rw [valF, Nat.pow_succ]
    omega

set_option maxRecDepth 100000 in
set_option maxHeartbeats 1000000 in
theorem rnext_c2 (s : ByteArray) (a x : Nat) (w : World) (hs : s.size ≤ 4611686018427387904) (ha : a < s.size) (hsi : (s[a]'ha).toNat = x) (hx : bt8 s a = x) (h1 : 192 ≤ x) (h2 : x < 224) (r n : Nat) (ok : Bool) (hG : Aside0 (nextG s (a : Int) = (r, n, ok))) :
    Calls Tryd.prog 38 #[.string s, .int .i64 (a : Int)] w fun e w' => e = .returned (.tuple #[.int .i32 (r : Int), .int .i64 (n : Int), .bool ok]) ∧ w = w' := by
  have HN := Aside0.mk (nextG_2 s a ha (by rw [hx]; exact ⟨h1, h2⟩))
  rw [hG.out, hx] at HN
  have b0 : decide (192 ≤ (x : Int)) = true := decide_eq_true (by omega)
  have b1 : decide ((x : Int) < 224) = true := decide_eq_true (by omega)
  have c0 : decide ((x : Int) < 128) = false := decide_eq_false (by omega)
  have c1 : decide ((a : Int) < 0) = false := decide_eq_false (by omega)
  have c2 : decide (s.size ≤ a) = false := decide_eq_false (by omega)
  have c3 : decide ((s.size : Int) ≤ (a : Int)) = false := decide_eq_false (by omega)
  have HX := Aside0.mk hx
  clear hx hG
  obtain ⟨v0, hv0⟩ : ∃ v0, x - 192 = v0 := ⟨_, rfl⟩
  have hv32 : v0 < 32 := by omega
  have HV0 := Aside0.mk hv0
  rw [hv0] at HN
  have hxv : (x : Int) - 192 = (v0 : Int) := by omega
  have HL := Aside0.mk (valF_lt s a v0 hv32)
  clear hv0
  go_enter Tryd.func38, Tryd.ntmps38
  go_wp2_with fail
  go_loop [9, 11] (fun t u => ∃ (v i : Nat), t = .int .i64 (v : Int) ∧ u = .int .i64 (i : Int) ∧ 1 ≤ i ∧ i ≤ 2 ∧ v < 8388608 ∧ Aside0 (v = valF s a v0 (i - 1)) ∧ Aside0 (∀ j, 1 ≤ j → j < i → 0 ≤ tailF s (a + j))) (fun _ u => 2 - (intOf u).toNat)
  case atStart => exact ⟨v0, 1, rfl, rfl, by omega, by omega, by omega, ⟨rfl⟩, ⟨fun j h3 h4 => by omega⟩⟩
  case round =>
    obtain ⟨v, i, rfl, rfl, hi1, hi2, hvl, HV, HJ⟩ := hrel
    have hvl2 : v < 8388608 := hvl
    by_cases hlt : i < 2
    · have k1 : IntKind.i64.wrap ((a : Int) + (i : Int)) = ((a + i : Nat) : Int) := by rw [IntWalk.i64_in _ (by omega)]; omega
      obtain ⟨t, ht⟩ : ∃ t, tailF s (a + i) = t := ⟨_, rfl⟩
      go_wp2_with fail
      refine (tail_at s (a + i) _ (by omega) (by omega) t ⟨ht⟩).mono ?_
      rintro e w1 ⟨rfl, rfl⟩
      by_cases ht0 : t < 0
      · have e := HN.out
        rw [if_neg (by
          intro hh
          have h5 : 0 ≤ tailF s (a + i) := by
            have h6 := hh.1
            have h7 : i = 1 ∨ i = 2 ∨ i = 3 := by omega
            rcases h7 with rfl | rfl | rfl <;> first | omega | exact h6 | exact h6.1 | exact h6.2 | exact h6.1.1 | exact h6.1.2
          omega)] at e
        simp only [Prod.mk.injEq] at e
        obtain ⟨rfl, rfl, rfl⟩ := e
        have HT := Aside0.mk ht
        clear ht
        go_wp2
        go_ret3
        exact ⟨rfl, rfl⟩
      · have hv' := HL.out i
        have e2 : valF s a v0 i = 64 * v + t.toNat := by
          obtain ⟨m, rfl⟩ : ∃ m, i = m + 1 := ⟨i - 1, by omega⟩
          rw [valF, ht, HV.out, Nat.add_sub_cancel]
        have ht64 : t < 64 := by
          have h5 := tail_val s (a + i) (by omega)
          rw [ht] at h5
          omega
        obtain ⟨t, rfl⟩ := Int.eq_ofNat_of_zero_le (show 0 ≤ t by omega)
        rw [Int.toNat_natCast] at e2
        have h8 : 32 * 64 ^ i ≤ 8388608 := by
          have h7 : i = 1 ∨ i = 2 ∨ i = 3 := by omega
          rcases h7 with rfl | rfl | rfl <;> decide
        have hvb : 64 * v + t < 8388608 := by omega
        have HE := Aside0.mk e2
        have HTT := Aside0.mk ht
        clear e2 ht h8 hv'
        go_wp2
        go_round
        case rel =>
          refine ⟨64 * v + t, i + 1, by go_num, by go_num, by omega, by omega, hvb, ⟨by rw [Nat.add_sub_cancel, HE.out]⟩, ⟨fun j h3 h4 => ?_⟩⟩
          rcases Nat.lt_or_ge j i with h | h
          · exact HJ.out j h3 h
          · obtain rfl : j = i := by omega
            rw [HTT.out]
            omega
        case measure => simp [intOf]; omega
    · obtain rfl : i = 2 := by omega
      have hall : 0 ≤ tailF s (a + 1) := HJ.out 1 (by omega) (by omega)
      have hvv : v = valF s a v0 1 := HV.out
      have hvl3 := HL.out 1
      have e := HN.out
      rw [← hvv] at e hvl3
      have HALL := Aside0.mk hall
      have HVV := Aside0.mk hvv
      clear hall hvv HV
      have kw : IntKind.i32.wrap (v : Int) = v := IntWalk.i32_in _ (by omega)
      by_cases g1 : v < 128
      · have d1 : decide ((v : Int) < 128) = true := decide_eq_true (by omega)
        rw [if_neg (fun hh => by have := hh.2; omega)] at e
        simp only [Prod.mk.injEq] at e
        obtain ⟨rfl, rfl, rfl⟩ := e
        clear hvl3
        go_wp2
        go_ret3
        exact ⟨rfl, rfl⟩
      · have d1 : decide ((v : Int) < 128) = false := decide_eq_false (by omega)
        have d2 : decide (1114111 < (v : Int)) = false := decide_eq_false (by omega)
        have d3 : decide (55296 ≤ (v : Int)) = false := decide_eq_false (by omega)
        rw [if_pos ⟨HALL.out, by omega⟩] at e
        simp only [Prod.mk.injEq] at e
        obtain ⟨rfl, rfl, rfl⟩ := e
        clear hvl3
        go_wp2
        go_ret3
        exact ⟨rfl, rfl⟩

set_option maxRecDepth 100000 in
set_option maxHeartbeats 1000000 in
theorem rnext_c3 (s : ByteArray) (a x : Nat) (w : World) (hs : s.size ≤ 4611686018427387904) (ha : a < s.size) (hsi : (s[a]'ha).toNat = x) (hx : bt8 s a = x) (h1 : 224 ≤ x) (h2 : x < 240) (r n : Nat) (ok : Bool) (hG : Aside0 (nextG s (a : Int) = (r, n, ok))) :
    Calls Tryd.prog 38 #[.string s, .int .i64 (a : Int)] w fun e w' => e = .returned (.tuple #[.int .i32 (r : Int), .int .i64 (n : Int), .bool ok]) ∧ w = w' := by
  have HN := Aside0.mk (nextG_3 s a ha (by rw [hx]; exact ⟨h1, h2⟩))
  rw [hG.out, hx] at HN
  have b0 : decide (192 ≤ (x : Int)) = true := decide_eq_true (by omega)
  have b1 : decide (224 ≤ (x : Int)) = true := decide_eq_true (by omega)
  have b2 : decide ((x : Int) < 240) = true := decide_eq_true (by omega)
  have c0 : decide ((x : Int) < 128) = false := decide_eq_false (by omega)
  have c1 : decide ((a : Int) < 0) = false := decide_eq_false (by omega)
  have c2 : decide (s.size ≤ a) = false := decide_eq_false (by omega)
  have c3 : decide ((s.size : Int) ≤ (a : Int)) = false := decide_eq_false (by omega)
  have c4 : decide ((x : Int) < 224) = false := decide_eq_false (by omega)
  have HX := Aside0.mk hx
  clear hx hG
  obtain ⟨v0, hv0⟩ : ∃ v0, x - 224 = v0 := ⟨_, rfl⟩
  have hv32 : v0 < 32 := by omega
  have HV0 := Aside0.mk hv0
  rw [hv0] at HN
  have hxv : (x : Int) - 224 = (v0 : Int) := by omega
  have HL := Aside0.mk (valF_lt s a v0 hv32)
  clear hv0
  go_enter Tryd.func38, Tryd.ntmps38
  go_wp2_with fail
  go_loop [9, 11] (fun t u => ∃ (v i : Nat), t = .int .i64 (v : Int) ∧ u = .int .i64 (i : Int) ∧ 1 ≤ i ∧ i ≤ 3 ∧ v < 8388608 ∧ Aside0 (v = valF s a v0 (i - 1)) ∧ Aside0 (∀ j, 1 ≤ j → j < i → 0 ≤ tailF s (a + j))) (fun _ u => 3 - (intOf u).toNat)
  case atStart => exact ⟨v0, 1, rfl, rfl, by omega, by omega, by omega, ⟨rfl⟩, ⟨fun j h3 h4 => by omega⟩⟩
  case round =>
    obtain ⟨v, i, rfl, rfl, hi1, hi2, hvl, HV, HJ⟩ := hrel
    have hvl2 : v < 8388608 := hvl
    by_cases hlt : i < 3
    · have k1 : IntKind.i64.wrap ((a : Int) + (i : Int)) = ((a + i : Nat) : Int) := by rw [IntWalk.i64_in _ (by omega)]; omega
      obtain ⟨t, ht⟩ : ∃ t, tailF s (a + i) = t := ⟨_, rfl⟩
      go_wp2_with fail
      refine (tail_at s (a + i) _ (by omega) (by omega) t ⟨ht⟩).mono ?_
      rintro e w1 ⟨rfl, rfl⟩
      by_cases ht0 : t < 0
      · have e := HN.out
        rw [if_neg (by
          intro hh
          have h5 : 0 ≤ tailF s (a + i) := by
            have h6 := hh.1
            have h7 : i = 1 ∨ i = 2 ∨ i = 3 := by omega
            rcases h7 with rfl | rfl | rfl <;> first | omega | exact h6 | exact h6.1 | exact h6.2 | exact h6.1.1 | exact h6.1.2
          omega)] at e
        simp only [Prod.mk.injEq] at e
        obtain ⟨rfl, rfl, rfl⟩ := e
        have HT := Aside0.mk ht
        clear ht
        go_wp2
        go_ret3
        exact ⟨rfl, rfl⟩
      · have hv' := HL.out i
        have e2 : valF s a v0 i = 64 * v + t.toNat := by
          obtain ⟨m, rfl⟩ : ∃ m, i = m + 1 := ⟨i - 1, by omega⟩
          rw [valF, ht, HV.out, Nat.add_sub_cancel]
        have ht64 : t < 64 := by
          have h5 := tail_val s (a + i) (by omega)
          rw [ht] at h5
          omega
        obtain ⟨t, rfl⟩ := Int.eq_ofNat_of_zero_le (show 0 ≤ t by omega)
        rw [Int.toNat_natCast] at e2
        have h8 : 32 * 64 ^ i ≤ 8388608 := by
          have h7 : i = 1 ∨ i = 2 ∨ i = 3 := by omega
          rcases h7 with rfl | rfl | rfl <;> decide
        have hvb : 64 * v + t < 8388608 := by omega
        have HE := Aside0.mk e2
        have HTT := Aside0.mk ht
        clear e2 ht h8 hv'
        go_wp2
        go_round
        case rel =>
          refine ⟨64 * v + t, i + 1, by go_num, by go_num, by omega, by omega, hvb, ⟨by rw [Nat.add_sub_cancel, HE.out]⟩, ⟨fun j h3 h4 => ?_⟩⟩
          rcases Nat.lt_or_ge j i with h | h
          · exact HJ.out j h3 h
          · obtain rfl : j = i := by omega
            rw [HTT.out]
            omega
        case measure => simp [intOf]; omega
    · obtain rfl : i = 3 := by omega
      have hall : 0 ≤ tailF s (a + 1) ∧ 0 ≤ tailF s (a + 2) := ⟨HJ.out 1 (by omega) (by omega), HJ.out 2 (by omega) (by omega)⟩
      have hvv : v = valF s a v0 2 := HV.out
      have hvl3 := HL.out 2
      have e := HN.out
      rw [← hvv] at e hvl3
      have HALL := Aside0.mk hall
      have HVV := Aside0.mk hvv
      clear hall hvv HV
      have kw : IntKind.i32.wrap (v : Int) = v := IntWalk.i32_in _ (by omega)
      by_cases g1 : v < 2048
      · have d1 : decide ((v : Int) < 2048) = true := decide_eq_true (by omega)
        rw [if_neg (fun hh => by have := hh.2; omega)] at e
        simp only [Prod.mk.injEq] at e
        obtain ⟨rfl, rfl, rfl⟩ := e
        clear hvl3
        go_wp2
        go_ret3
        exact ⟨rfl, rfl⟩
      · have d1 : decide ((v : Int) < 2048) = false := decide_eq_false (by omega)
        have d2 : decide (1114111 < (v : Int)) = false := decide_eq_false (by omega)
        by_cases g2 : 55296 ≤ v
        · have d3 : decide (55296 ≤ (v : Int)) = true := decide_eq_true (by omega)
          by_cases g3 : v ≤ 57343
          · have d4 : decide ((v : Int) ≤ 57343) = true := decide_eq_true (by omega)
            rw [if_neg (fun hh => by have := hh.2; omega)] at e
            simp only [Prod.mk.injEq] at e
            obtain ⟨rfl, rfl, rfl⟩ := e
            clear hvl3
            go_wp2
            go_ret3
            exact ⟨rfl, rfl⟩
          · have d4 : decide ((v : Int) ≤ 57343) = false := decide_eq_false (by omega)
            rw [if_pos ⟨HALL.out, by omega⟩] at e
            simp only [Prod.mk.injEq] at e
            obtain ⟨rfl, rfl, rfl⟩ := e
            clear hvl3
            go_wp2
            go_ret3
            exact ⟨rfl, rfl⟩
        · have d3 : decide (55296 ≤ (v : Int)) = false := decide_eq_false (by omega)
          rw [if_pos ⟨HALL.out, by omega⟩] at e
          simp only [Prod.mk.injEq] at e
          obtain ⟨rfl, rfl, rfl⟩ := e
          clear hvl3
          go_wp2
          go_ret3
          exact ⟨rfl, rfl⟩

set_option maxRecDepth 100000 in
set_option maxHeartbeats 1000000 in
theorem rnext_c4 (s : ByteArray) (a x : Nat) (w : World) (hs : s.size ≤ 4611686018427387904) (ha : a < s.size) (hsi : (s[a]'ha).toNat = x) (hx : bt8 s a = x) (h1 : 240 ≤ x) (h2 : x < 248) (r n : Nat) (ok : Bool) (hG : Aside0 (nextG s (a : Int) = (r, n, ok))) :
    Calls Tryd.prog 38 #[.string s, .int .i64 (a : Int)] w fun e w' => e = .returned (.tuple #[.int .i32 (r : Int), .int .i64 (n : Int), .bool ok]) ∧ w = w' := by
  have HN := Aside0.mk (nextG_4 s a ha (by rw [hx]; exact ⟨h1, h2⟩))
  rw [hG.out, hx] at HN
  have b0 : decide (192 ≤ (x : Int)) = true := decide_eq_true (by omega)
  have b1 : decide (224 ≤ (x : Int)) = true := decide_eq_true (by omega)
  have b2 : decide (240 ≤ (x : Int)) = true := decide_eq_true (by omega)
  have b3 : decide ((x : Int) < 248) = true := decide_eq_true (by omega)
  have c0 : decide ((x : Int) < 128) = false := decide_eq_false (by omega)
  have c1 : decide ((a : Int) < 0) = false := decide_eq_false (by omega)
  have c2 : decide (s.size ≤ a) = false := decide_eq_false (by omega)
  have c3 : decide ((s.size : Int) ≤ (a : Int)) = false := decide_eq_false (by omega)
  have c4 : decide ((x : Int) < 224) = false := decide_eq_false (by omega)
  have c5 : decide ((x : Int) < 240) = false := decide_eq_false (by omega)
  have HX := Aside0.mk hx
  clear hx hG
  obtain ⟨v0, hv0⟩ : ∃ v0, x - 240 = v0 := ⟨_, rfl⟩
  have hv32 : v0 < 32 := by omega
  have HV0 := Aside0.mk hv0
  rw [hv0] at HN
  have hxv : (x : Int) - 240 = (v0 : Int) := by omega
  have HL := Aside0.mk (valF_lt s a v0 hv32)
  clear hv0
  go_enter Tryd.func38, Tryd.ntmps38
  go_wp2_with fail
  go_loop [9, 11] (fun t u => ∃ (v i : Nat), t = .int .i64 (v : Int) ∧ u = .int .i64 (i : Int) ∧ 1 ≤ i ∧ i ≤ 4 ∧ v < 8388608 ∧ Aside0 (v = valF s a v0 (i - 1)) ∧ Aside0 (∀ j, 1 ≤ j → j < i → 0 ≤ tailF s (a + j))) (fun _ u => 4 - (intOf u).toNat)
  case atStart => exact ⟨v0, 1, rfl, rfl, by omega, by omega, by omega, ⟨rfl⟩, ⟨fun j h3 h4 => by omega⟩⟩
  case round =>
    obtain ⟨v, i, rfl, rfl, hi1, hi2, hvl, HV, HJ⟩ := hrel
    have hvl2 : v < 8388608 := hvl
    by_cases hlt : i < 4
    · have k1 : IntKind.i64.wrap ((a : Int) + (i : Int)) = ((a + i : Nat) : Int) := by rw [IntWalk.i64_in _ (by omega)]; omega
      obtain ⟨t, ht⟩ : ∃ t, tailF s (a + i) = t := ⟨_, rfl⟩
      go_wp2_with fail
      refine (tail_at s (a + i) _ (by omega) (by omega) t ⟨ht⟩).mono ?_
      rintro e w1 ⟨rfl, rfl⟩
      by_cases ht0 : t < 0
      · have e := HN.out
        rw [if_neg (by
          intro hh
          have h5 : 0 ≤ tailF s (a + i) := by
            have h6 := hh.1
            have h7 : i = 1 ∨ i = 2 ∨ i = 3 := by omega
            rcases h7 with rfl | rfl | rfl <;> first | omega | exact h6 | exact h6.1 | exact h6.2 | exact h6.1.1 | exact h6.1.2
          omega)] at e
        simp only [Prod.mk.injEq] at e
        obtain ⟨rfl, rfl, rfl⟩ := e
        have HT := Aside0.mk ht
        clear ht
        go_wp2
        go_ret3
        exact ⟨rfl, rfl⟩
      · have hv' := HL.out i
        have e2 : valF s a v0 i = 64 * v + t.toNat := by
          obtain ⟨m, rfl⟩ : ∃ m, i = m + 1 := ⟨i - 1, by omega⟩
          rw [valF, ht, HV.out, Nat.add_sub_cancel]
        have ht64 : t < 64 := by
          have h5 := tail_val s (a + i) (by omega)
          rw [ht] at h5
          omega
        obtain ⟨t, rfl⟩ := Int.eq_ofNat_of_zero_le (show 0 ≤ t by omega)
        rw [Int.toNat_natCast] at e2
        have h8 : 32 * 64 ^ i ≤ 8388608 := by
          have h7 : i = 1 ∨ i = 2 ∨ i = 3 := by omega
          rcases h7 with rfl | rfl | rfl <;> decide
        have hvb : 64 * v + t < 8388608 := by omega
        have HE := Aside0.mk e2
        have HTT := Aside0.mk ht
        clear e2 ht h8 hv'
        go_wp2
        go_round
        case rel =>
          refine ⟨64 * v + t, i + 1, by go_num, by go_num, by omega, by omega, hvb, ⟨by rw [Nat.add_sub_cancel, HE.out]⟩, ⟨fun j h3 h4 => ?_⟩⟩
          rcases Nat.lt_or_ge j i with h | h
          · exact HJ.out j h3 h
          · obtain rfl : j = i := by omega
            rw [HTT.out]
            omega
        case measure => simp [intOf]; omega
    · obtain rfl : i = 4 := by omega
      have hall : (0 ≤ tailF s (a + 1) ∧ 0 ≤ tailF s (a + 2)) ∧ 0 ≤ tailF s (a + 3) := ⟨⟨HJ.out 1 (by omega) (by omega), HJ.out 2 (by omega) (by omega)⟩, HJ.out 3 (by omega) (by omega)⟩
      have hvv : v = valF s a v0 3 := HV.out
      have hvl3 := HL.out 3
      have e := HN.out
      rw [← hvv] at e hvl3
      have HALL := Aside0.mk hall
      have HVV := Aside0.mk hvv
      clear hall hvv HV
      have kw : IntKind.i32.wrap (v : Int) = v := IntWalk.i32_in _ (by omega)
      by_cases g1 : v < 65536
      · have d1 : decide ((v : Int) < 65536) = true := decide_eq_true (by omega)
        rw [if_neg (fun hh => by have := hh.2; omega)] at e
        simp only [Prod.mk.injEq] at e
        obtain ⟨rfl, rfl, rfl⟩ := e
        clear hvl3
        go_wp2
        go_ret3
        exact ⟨rfl, rfl⟩
      · have d1 : decide ((v : Int) < 65536) = false := decide_eq_false (by omega)
        by_cases g2 : 1114111 < v
        · have d2 : decide (1114111 < (v : Int)) = true := decide_eq_true (by omega)
          rw [if_neg (fun hh => by have := hh.2; omega)] at e
          simp only [Prod.mk.injEq] at e
          obtain ⟨rfl, rfl, rfl⟩ := e
          clear hvl3
          go_wp2
          go_ret3
          exact ⟨rfl, rfl⟩
        · have d2 : decide (1114111 < (v : Int)) = false := decide_eq_false (by omega)
          have d3 : decide (55296 ≤ (v : Int)) = true := decide_eq_true (by omega)
          have d4 : decide ((v : Int) ≤ 57343) = false := decide_eq_false (by omega)
          rw [if_pos ⟨HALL.out, by omega⟩] at e
          simp only [Prod.mk.injEq] at e
          obtain ⟨rfl, rfl, rfl⟩ := e
          clear hvl3
          go_wp2
          go_ret3
          exact ⟨rfl, rfl⟩

theorem rnext_at (s : ByteArray) (a : Int) (w : World) (hs : s.size ≤ 4611686018427387904) (r n : Nat) (ok : Bool) (hG : Aside0 (nextG s a = (r, n, ok))) :
    Calls Tryd.prog 38 #[.string s, .int .i64 a] w fun e w' => e = .returned (.tuple #[.int .i32 (r : Int), .int .i64 (n : Int), .bool ok]) ∧ w = w' := by
  by_cases h : a < 0 ∨ (s.size : Int) ≤ a
  · have e := hG.out
    rw [nextG, if_pos h] at e
    simp only [Prod.mk.injEq] at e
    obtain ⟨rfl, rfl, rfl⟩ := e
    exact rnext_out s a w hs h
  · obtain ⟨i, rfl⟩ := Int.eq_ofNat_of_zero_le (show 0 ≤ a by omega)
    have hi : i < s.size := by omega
    have hx := bt8_at s i hi
    have hl := bt8_lt s i
    have e := hG.out
    by_cases c1 : bt8 s i < 128
    · rw [nextG_low s i hi c1] at e
      simp only [Prod.mk.injEq] at e
      obtain ⟨rfl, rfl, rfl⟩ := e
      exact rnext_low s i _ w hs hi hx c1
    · by_cases c2 : (128 ≤ bt8 s i ∧ bt8 s i < 192) ∨ 248 ≤ bt8 s i
      · rw [nextG_none s i hi c2] at e
        simp only [Prod.mk.injEq] at e
        obtain ⟨rfl, rfl, rfl⟩ := e
        exact rnext_none s i _ w hs hi hx hl c2
      · by_cases c3 : bt8 s i < 224
        · exact rnext_c2 s i _ w hs hi hx rfl (by omega) c3 r n ok hG
        · by_cases c4 : bt8 s i < 240
          · exact rnext_c3 s i _ w hs hi hx rfl (by omega) c4 r n ok hG
          · exact rnext_c4 s i _ w hs hi hx rfl (by omega) (by omega) r n ok hG
end Go.Proofs.YtbfhglaaombglaaDoor

/- The reference's letters. -/
namespace Go.Proofs.YtbfhglaaombglaaDoor
set_option linter.unusedVariables false
set_option linter.unusedSimpArgs false
open Go.RowKit Go.Proofs.YtbfhglaaombglaaDoorW.PrintWords

theorem rdigit_any (r : Int) (w : World) (v : Bool) (hv : Aside0 (digitF r = v)) : Calls Tryd.prog 41 #[.int .i32 r] w fun e w' => e = .returned (.bool v) ∧ w = w' := by
  have h := hv.out
  rw [digitF, inF] at h
  by_cases h1 : 48 ≤ r
  · by_cases h2 : r ≤ 57
    · rw [decide_eq_true h1, decide_eq_true h2] at h
      subst h
      clear hv
      go_enter Tryd.func41, Tryd.ntmps41
      go_wp2
      go_ret
      exact ⟨rfl, rfl⟩
    · rw [decide_eq_true h1, decide_eq_false h2] at h
      subst h
      clear hv
      go_enter Tryd.func41, Tryd.ntmps41
      go_wp2
      go_ret
      exact ⟨rfl, rfl⟩
  · rw [decide_eq_false h1] at h
    subst h
    clear hv
    go_enter Tryd.func41, Tryd.ntmps41
    go_wp2
    go_ret
    exact ⟨rfl, rfl⟩

set_option maxRecDepth 100000 in
set_option maxHeartbeats 4000000 in
theorem rletter_any (r : Int) (w : World) (v : Bool) (hv : Aside0 (letterF r = v)) : Calls Tryd.prog 39 #[.int .i32 r] w fun e w' => e = .returned (.bool v) ∧ w = w' := by
  have hv' := hv.out
  unfold letterF inF at hv'
  by_cases g0 : r ≤ 64
  · have f0 : decide (97 ≤ r) = false := decide_eq_false (by omega)
    have f1 : decide (65 ≤ r) = false := decide_eq_false (by omega)
    have f2 : decide (192 ≤ r) = false := decide_eq_false (by omega)
    have f3 : decide (913 ≤ r) = false := decide_eq_false (by omega)
    have f4 : decide (r ≤ 122) = true := decide_eq_true (by omega)
    have f5 : decide (r ≤ 90) = true := decide_eq_true (by omega)
    have f6 : decide (r ≤ 591) = true := decide_eq_true (by omega)
    have f7 : decide (r ≤ 969) = true := decide_eq_true (by omega)
    have q0 : (r == 95) = false := by rw [beq_eq_false_iff_ne]; omega
    have n0 : (r != 95) = true := by rw [bne_iff_ne]; omega
    have q1 : (r == 215) = false := by rw [beq_eq_false_iff_ne]; omega
    have n1 : (r != 215) = true := by rw [bne_iff_ne]; omega
    have q2 : (r == 247) = false := by rw [beq_eq_false_iff_ne]; omega
    have n2 : (r != 247) = true := by rw [bne_iff_ne]; omega
    have q3 : (r == 930) = false := by rw [beq_eq_false_iff_ne]; omega
    have n3 : (r != 930) = true := by rw [bne_iff_ne]; omega
    rw [f0, f1, f2, f3, f4, f5, f6, f7, q0, q1, q2, q3] at hv'
    simp only [Bool.or_true, Bool.true_or, Bool.or_false, Bool.false_or, Bool.and_true, Bool.true_and, Bool.and_false, Bool.false_and, Bool.not_true, Bool.not_false] at hv'
    subst hv'
    clear hv g0
    go_enter Tryd.func39, Tryd.ntmps39
    go_wp2
    go_ret
    exact ⟨rfl, rfl⟩
  · skip
    by_cases g1 : r ≤ 90
    · have f0 : decide (97 ≤ r) = false := decide_eq_false (by omega)
      have f1 : decide (65 ≤ r) = true := decide_eq_true (by omega)
      have f2 : decide (192 ≤ r) = false := decide_eq_false (by omega)
      have f3 : decide (913 ≤ r) = false := decide_eq_false (by omega)
      have f4 : decide (r ≤ 122) = true := decide_eq_true (by omega)
      have f5 : decide (r ≤ 90) = true := decide_eq_true (by omega)
      have f6 : decide (r ≤ 591) = true := decide_eq_true (by omega)
      have f7 : decide (r ≤ 969) = true := decide_eq_true (by omega)
      have q0 : (r == 95) = false := by rw [beq_eq_false_iff_ne]; omega
      have n0 : (r != 95) = true := by rw [bne_iff_ne]; omega
      have q1 : (r == 215) = false := by rw [beq_eq_false_iff_ne]; omega
      have n1 : (r != 215) = true := by rw [bne_iff_ne]; omega
      have q2 : (r == 247) = false := by rw [beq_eq_false_iff_ne]; omega
      have n2 : (r != 247) = true := by rw [bne_iff_ne]; omega
      have q3 : (r == 930) = false := by rw [beq_eq_false_iff_ne]; omega
      have n3 : (r != 930) = true := by rw [bne_iff_ne]; omega
      rw [f0, f1, f2, f3, f4, f5, f6, f7, q0, q1, q2, q3] at hv'
      simp only [Bool.or_true, Bool.true_or, Bool.or_false, Bool.false_or, Bool.and_true, Bool.true_and, Bool.and_false, Bool.false_and, Bool.not_true, Bool.not_false] at hv'
      subst hv'
      clear hv g0 g1
      go_enter Tryd.func39, Tryd.ntmps39
      go_wp2
      go_ret
      exact ⟨rfl, rfl⟩
    · skip
      by_cases g2 : r ≤ 94
      · have f0 : decide (97 ≤ r) = false := decide_eq_false (by omega)
        have f1 : decide (65 ≤ r) = true := decide_eq_true (by omega)
        have f2 : decide (192 ≤ r) = false := decide_eq_false (by omega)
        have f3 : decide (913 ≤ r) = false := decide_eq_false (by omega)
        have f4 : decide (r ≤ 122) = true := decide_eq_true (by omega)
        have f5 : decide (r ≤ 90) = false := decide_eq_false (by omega)
        have f6 : decide (r ≤ 591) = true := decide_eq_true (by omega)
        have f7 : decide (r ≤ 969) = true := decide_eq_true (by omega)
        have q0 : (r == 95) = false := by rw [beq_eq_false_iff_ne]; omega
        have n0 : (r != 95) = true := by rw [bne_iff_ne]; omega
        have q1 : (r == 215) = false := by rw [beq_eq_false_iff_ne]; omega
        have n1 : (r != 215) = true := by rw [bne_iff_ne]; omega
        have q2 : (r == 247) = false := by rw [beq_eq_false_iff_ne]; omega
        have n2 : (r != 247) = true := by rw [bne_iff_ne]; omega
        have q3 : (r == 930) = false := by rw [beq_eq_false_iff_ne]; omega
        have n3 : (r != 930) = true := by rw [bne_iff_ne]; omega
        rw [f0, f1, f2, f3, f4, f5, f6, f7, q0, q1, q2, q3] at hv'
        simp only [Bool.or_true, Bool.true_or, Bool.or_false, Bool.false_or, Bool.and_true, Bool.true_and, Bool.and_false, Bool.false_and, Bool.not_true, Bool.not_false] at hv'
        subst hv'
        clear hv g0 g1 g2
        go_enter Tryd.func39, Tryd.ntmps39
        go_wp2
        go_ret
        exact ⟨rfl, rfl⟩
      · skip
        by_cases g3 : r ≤ 95
        · have f0 : decide (97 ≤ r) = false := decide_eq_false (by omega)
          have f1 : decide (65 ≤ r) = true := decide_eq_true (by omega)
          have f2 : decide (192 ≤ r) = false := decide_eq_false (by omega)
          have f3 : decide (913 ≤ r) = false := decide_eq_false (by omega)
          have f4 : decide (r ≤ 122) = true := decide_eq_true (by omega)
          have f5 : decide (r ≤ 90) = false := decide_eq_false (by omega)
          have f6 : decide (r ≤ 591) = true := decide_eq_true (by omega)
          have f7 : decide (r ≤ 969) = true := decide_eq_true (by omega)
          have q0 : (r == 95) = true := by rw [beq_iff_eq]; omega
          have n0 : (r != 95) = false := by rw [bne_eq_false_iff_eq]; omega
          have q1 : (r == 215) = false := by rw [beq_eq_false_iff_ne]; omega
          have n1 : (r != 215) = true := by rw [bne_iff_ne]; omega
          have q2 : (r == 247) = false := by rw [beq_eq_false_iff_ne]; omega
          have n2 : (r != 247) = true := by rw [bne_iff_ne]; omega
          have q3 : (r == 930) = false := by rw [beq_eq_false_iff_ne]; omega
          have n3 : (r != 930) = true := by rw [bne_iff_ne]; omega
          rw [f0, f1, f2, f3, f4, f5, f6, f7, q0, q1, q2, q3] at hv'
          simp only [Bool.or_true, Bool.true_or, Bool.or_false, Bool.false_or, Bool.and_true, Bool.true_and, Bool.and_false, Bool.false_and, Bool.not_true, Bool.not_false] at hv'
          subst hv'
          clear hv g0 g1 g2 g3
          go_enter Tryd.func39, Tryd.ntmps39
          go_wp2
          go_ret
          exact ⟨rfl, rfl⟩
        · skip
          by_cases g4 : r ≤ 96
          · have f0 : decide (97 ≤ r) = false := decide_eq_false (by omega)
            have f1 : decide (65 ≤ r) = true := decide_eq_true (by omega)
            have f2 : decide (192 ≤ r) = false := decide_eq_false (by omega)
            have f3 : decide (913 ≤ r) = false := decide_eq_false (by omega)
            have f4 : decide (r ≤ 122) = true := decide_eq_true (by omega)
            have f5 : decide (r ≤ 90) = false := decide_eq_false (by omega)
            have f6 : decide (r ≤ 591) = true := decide_eq_true (by omega)
            have f7 : decide (r ≤ 969) = true := decide_eq_true (by omega)
            have q0 : (r == 95) = false := by rw [beq_eq_false_iff_ne]; omega
            have n0 : (r != 95) = true := by rw [bne_iff_ne]; omega
            have q1 : (r == 215) = false := by rw [beq_eq_false_iff_ne]; omega
            have n1 : (r != 215) = true := by rw [bne_iff_ne]; omega
            have q2 : (r == 247) = false := by rw [beq_eq_false_iff_ne]; omega
            have n2 : (r != 247) = true := by rw [bne_iff_ne]; omega
            have q3 : (r == 930) = false := by rw [beq_eq_false_iff_ne]; omega
            have n3 : (r != 930) = true := by rw [bne_iff_ne]; omega
            rw [f0, f1, f2, f3, f4, f5, f6, f7, q0, q1, q2, q3] at hv'
            simp only [Bool.or_true, Bool.true_or, Bool.or_false, Bool.false_or, Bool.and_true, Bool.true_and, Bool.and_false, Bool.false_and, Bool.not_true, Bool.not_false] at hv'
            subst hv'
            clear hv g0 g1 g2 g3 g4
            go_enter Tryd.func39, Tryd.ntmps39
            go_wp2
            go_ret
            exact ⟨rfl, rfl⟩
          · skip
            by_cases g5 : r ≤ 122
            · have f0 : decide (97 ≤ r) = true := decide_eq_true (by omega)
              have f1 : decide (65 ≤ r) = true := decide_eq_true (by omega)
              have f2 : decide (192 ≤ r) = false := decide_eq_false (by omega)
              have f3 : decide (913 ≤ r) = false := decide_eq_false (by omega)
              have f4 : decide (r ≤ 122) = true := decide_eq_true (by omega)
              have f5 : decide (r ≤ 90) = false := decide_eq_false (by omega)
              have f6 : decide (r ≤ 591) = true := decide_eq_true (by omega)
              have f7 : decide (r ≤ 969) = true := decide_eq_true (by omega)
              have q0 : (r == 95) = false := by rw [beq_eq_false_iff_ne]; omega
              have n0 : (r != 95) = true := by rw [bne_iff_ne]; omega
              have q1 : (r == 215) = false := by rw [beq_eq_false_iff_ne]; omega
              have n1 : (r != 215) = true := by rw [bne_iff_ne]; omega
              have q2 : (r == 247) = false := by rw [beq_eq_false_iff_ne]; omega
              have n2 : (r != 247) = true := by rw [bne_iff_ne]; omega
              have q3 : (r == 930) = false := by rw [beq_eq_false_iff_ne]; omega
              have n3 : (r != 930) = true := by rw [bne_iff_ne]; omega
              rw [f0, f1, f2, f3, f4, f5, f6, f7, q0, q1, q2, q3] at hv'
              simp only [Bool.or_true, Bool.true_or, Bool.or_false, Bool.false_or, Bool.and_true, Bool.true_and, Bool.and_false, Bool.false_and, Bool.not_true, Bool.not_false] at hv'
              subst hv'
              clear hv g0 g1 g2 g3 g4 g5
              go_enter Tryd.func39, Tryd.ntmps39
              go_wp2
              go_ret
              exact ⟨rfl, rfl⟩
            · skip
              by_cases g6 : r ≤ 191
              · have f0 : decide (97 ≤ r) = true := decide_eq_true (by omega)
                have f1 : decide (65 ≤ r) = true := decide_eq_true (by omega)
                have f2 : decide (192 ≤ r) = false := decide_eq_false (by omega)
                have f3 : decide (913 ≤ r) = false := decide_eq_false (by omega)
                have f4 : decide (r ≤ 122) = false := decide_eq_false (by omega)
                have f5 : decide (r ≤ 90) = false := decide_eq_false (by omega)
                have f6 : decide (r ≤ 591) = true := decide_eq_true (by omega)
                have f7 : decide (r ≤ 969) = true := decide_eq_true (by omega)
                have q0 : (r == 95) = false := by rw [beq_eq_false_iff_ne]; omega
                have n0 : (r != 95) = true := by rw [bne_iff_ne]; omega
                have q1 : (r == 215) = false := by rw [beq_eq_false_iff_ne]; omega
                have n1 : (r != 215) = true := by rw [bne_iff_ne]; omega
                have q2 : (r == 247) = false := by rw [beq_eq_false_iff_ne]; omega
                have n2 : (r != 247) = true := by rw [bne_iff_ne]; omega
                have q3 : (r == 930) = false := by rw [beq_eq_false_iff_ne]; omega
                have n3 : (r != 930) = true := by rw [bne_iff_ne]; omega
                rw [f0, f1, f2, f3, f4, f5, f6, f7, q0, q1, q2, q3] at hv'
                simp only [Bool.or_true, Bool.true_or, Bool.or_false, Bool.false_or, Bool.and_true, Bool.true_and, Bool.and_false, Bool.false_and, Bool.not_true, Bool.not_false] at hv'
                subst hv'
                clear hv g0 g1 g2 g3 g4 g5 g6
                go_enter Tryd.func39, Tryd.ntmps39
                go_wp2
                go_ret
                exact ⟨rfl, rfl⟩
              · skip
                by_cases g7 : r ≤ 214
                · have f0 : decide (97 ≤ r) = true := decide_eq_true (by omega)
                  have f1 : decide (65 ≤ r) = true := decide_eq_true (by omega)
                  have f2 : decide (192 ≤ r) = true := decide_eq_true (by omega)
                  have f3 : decide (913 ≤ r) = false := decide_eq_false (by omega)
                  have f4 : decide (r ≤ 122) = false := decide_eq_false (by omega)
                  have f5 : decide (r ≤ 90) = false := decide_eq_false (by omega)
                  have f6 : decide (r ≤ 591) = true := decide_eq_true (by omega)
                  have f7 : decide (r ≤ 969) = true := decide_eq_true (by omega)
                  have q0 : (r == 95) = false := by rw [beq_eq_false_iff_ne]; omega
                  have n0 : (r != 95) = true := by rw [bne_iff_ne]; omega
                  have q1 : (r == 215) = false := by rw [beq_eq_false_iff_ne]; omega
                  have n1 : (r != 215) = true := by rw [bne_iff_ne]; omega
                  have q2 : (r == 247) = false := by rw [beq_eq_false_iff_ne]; omega
                  have n2 : (r != 247) = true := by rw [bne_iff_ne]; omega
                  have q3 : (r == 930) = false := by rw [beq_eq_false_iff_ne]; omega
                  have n3 : (r != 930) = true := by rw [bne_iff_ne]; omega
                  rw [f0, f1, f2, f3, f4, f5, f6, f7, q0, q1, q2, q3] at hv'
                  simp only [Bool.or_true, Bool.true_or, Bool.or_false, Bool.false_or, Bool.and_true, Bool.true_and, Bool.and_false, Bool.false_and, Bool.not_true, Bool.not_false] at hv'
                  subst hv'
                  clear hv g0 g1 g2 g3 g4 g5 g6 g7
                  go_enter Tryd.func39, Tryd.ntmps39
                  go_wp2
                  go_ret
                  exact ⟨rfl, rfl⟩
                · skip
                  by_cases g8 : r ≤ 215
                  · have f0 : decide (97 ≤ r) = true := decide_eq_true (by omega)
                    have f1 : decide (65 ≤ r) = true := decide_eq_true (by omega)
                    have f2 : decide (192 ≤ r) = true := decide_eq_true (by omega)
                    have f3 : decide (913 ≤ r) = false := decide_eq_false (by omega)
                    have f4 : decide (r ≤ 122) = false := decide_eq_false (by omega)
                    have f5 : decide (r ≤ 90) = false := decide_eq_false (by omega)
                    have f6 : decide (r ≤ 591) = true := decide_eq_true (by omega)
                    have f7 : decide (r ≤ 969) = true := decide_eq_true (by omega)
                    have q0 : (r == 95) = false := by rw [beq_eq_false_iff_ne]; omega
                    have n0 : (r != 95) = true := by rw [bne_iff_ne]; omega
                    have q1 : (r == 215) = true := by rw [beq_iff_eq]; omega
                    have n1 : (r != 215) = false := by rw [bne_eq_false_iff_eq]; omega
                    have q2 : (r == 247) = false := by rw [beq_eq_false_iff_ne]; omega
                    have n2 : (r != 247) = true := by rw [bne_iff_ne]; omega
                    have q3 : (r == 930) = false := by rw [beq_eq_false_iff_ne]; omega
                    have n3 : (r != 930) = true := by rw [bne_iff_ne]; omega
                    rw [f0, f1, f2, f3, f4, f5, f6, f7, q0, q1, q2, q3] at hv'
                    simp only [Bool.or_true, Bool.true_or, Bool.or_false, Bool.false_or, Bool.and_true, Bool.true_and, Bool.and_false, Bool.false_and, Bool.not_true, Bool.not_false] at hv'
                    subst hv'
                    clear hv g0 g1 g2 g3 g4 g5 g6 g7 g8
                    go_enter Tryd.func39, Tryd.ntmps39
                    go_wp2
                    go_ret
                    exact ⟨rfl, rfl⟩
                  · skip
                    by_cases g9 : r ≤ 246
                    · have f0 : decide (97 ≤ r) = true := decide_eq_true (by omega)
                      have f1 : decide (65 ≤ r) = true := decide_eq_true (by omega)
                      have f2 : decide (192 ≤ r) = true := decide_eq_true (by omega)
                      have f3 : decide (913 ≤ r) = false := decide_eq_false (by omega)
                      have f4 : decide (r ≤ 122) = false := decide_eq_false (by omega)
                      have f5 : decide (r ≤ 90) = false := decide_eq_false (by omega)
                      have f6 : decide (r ≤ 591) = true := decide_eq_true (by omega)
                      have f7 : decide (r ≤ 969) = true := decide_eq_true (by omega)
                      have q0 : (r == 95) = false := by rw [beq_eq_false_iff_ne]; omega
                      have n0 : (r != 95) = true := by rw [bne_iff_ne]; omega
                      have q1 : (r == 215) = false := by rw [beq_eq_false_iff_ne]; omega
                      have n1 : (r != 215) = true := by rw [bne_iff_ne]; omega
                      have q2 : (r == 247) = false := by rw [beq_eq_false_iff_ne]; omega
                      have n2 : (r != 247) = true := by rw [bne_iff_ne]; omega
                      have q3 : (r == 930) = false := by rw [beq_eq_false_iff_ne]; omega
                      have n3 : (r != 930) = true := by rw [bne_iff_ne]; omega
                      rw [f0, f1, f2, f3, f4, f5, f6, f7, q0, q1, q2, q3] at hv'
                      simp only [Bool.or_true, Bool.true_or, Bool.or_false, Bool.false_or, Bool.and_true, Bool.true_and, Bool.and_false, Bool.false_and, Bool.not_true, Bool.not_false] at hv'
                      subst hv'
                      clear hv g0 g1 g2 g3 g4 g5 g6 g7 g8 g9
                      go_enter Tryd.func39, Tryd.ntmps39
                      go_wp2
                      go_ret
                      exact ⟨rfl, rfl⟩
                    · skip
                      by_cases g10 : r ≤ 247
                      · have f0 : decide (97 ≤ r) = true := decide_eq_true (by omega)
                        have f1 : decide (65 ≤ r) = true := decide_eq_true (by omega)
                        have f2 : decide (192 ≤ r) = true := decide_eq_true (by omega)
                        have f3 : decide (913 ≤ r) = false := decide_eq_false (by omega)
                        have f4 : decide (r ≤ 122) = false := decide_eq_false (by omega)
                        have f5 : decide (r ≤ 90) = false := decide_eq_false (by omega)
                        have f6 : decide (r ≤ 591) = true := decide_eq_true (by omega)
                        have f7 : decide (r ≤ 969) = true := decide_eq_true (by omega)
                        have q0 : (r == 95) = false := by rw [beq_eq_false_iff_ne]; omega
                        have n0 : (r != 95) = true := by rw [bne_iff_ne]; omega
                        have q1 : (r == 215) = false := by rw [beq_eq_false_iff_ne]; omega
                        have n1 : (r != 215) = true := by rw [bne_iff_ne]; omega
                        have q2 : (r == 247) = true := by rw [beq_iff_eq]; omega
                        have n2 : (r != 247) = false := by rw [bne_eq_false_iff_eq]; omega
                        have q3 : (r == 930) = false := by rw [beq_eq_false_iff_ne]; omega
                        have n3 : (r != 930) = true := by rw [bne_iff_ne]; omega
                        rw [f0, f1, f2, f3, f4, f5, f6, f7, q0, q1, q2, q3] at hv'
                        simp only [Bool.or_true, Bool.true_or, Bool.or_false, Bool.false_or, Bool.and_true, Bool.true_and, Bool.and_false, Bool.false_and, Bool.not_true, Bool.not_false] at hv'
                        subst hv'
                        clear hv g0 g1 g2 g3 g4 g5 g6 g7 g8 g9 g10
                        go_enter Tryd.func39, Tryd.ntmps39
                        go_wp2
                        go_ret
                        exact ⟨rfl, rfl⟩
                      · skip
                        by_cases g11 : r ≤ 591
                        · have f0 : decide (97 ≤ r) = true := decide_eq_true (by omega)
                          have f1 : decide (65 ≤ r) = true := decide_eq_true (by omega)
                          have f2 : decide (192 ≤ r) = true := decide_eq_true (by omega)
                          have f3 : decide (913 ≤ r) = false := decide_eq_false (by omega)
                          have f4 : decide (r ≤ 122) = false := decide_eq_false (by omega)
                          have f5 : decide (r ≤ 90) = false := decide_eq_false (by omega)
                          have f6 : decide (r ≤ 591) = true := decide_eq_true (by omega)
                          have f7 : decide (r ≤ 969) = true := decide_eq_true (by omega)
                          have q0 : (r == 95) = false := by rw [beq_eq_false_iff_ne]; omega
                          have n0 : (r != 95) = true := by rw [bne_iff_ne]; omega
                          have q1 : (r == 215) = false := by rw [beq_eq_false_iff_ne]; omega
                          have n1 : (r != 215) = true := by rw [bne_iff_ne]; omega
                          have q2 : (r == 247) = false := by rw [beq_eq_false_iff_ne]; omega
                          have n2 : (r != 247) = true := by rw [bne_iff_ne]; omega
                          have q3 : (r == 930) = false := by rw [beq_eq_false_iff_ne]; omega
                          have n3 : (r != 930) = true := by rw [bne_iff_ne]; omega
                          rw [f0, f1, f2, f3, f4, f5, f6, f7, q0, q1, q2, q3] at hv'
                          simp only [Bool.or_true, Bool.true_or, Bool.or_false, Bool.false_or, Bool.and_true, Bool.true_and, Bool.and_false, Bool.false_and, Bool.not_true, Bool.not_false] at hv'
                          subst hv'
                          clear hv g0 g1 g2 g3 g4 g5 g6 g7 g8 g9 g10 g11
                          go_enter Tryd.func39, Tryd.ntmps39
                          go_wp2
                          go_ret
                          exact ⟨rfl, rfl⟩
                        · skip
                          by_cases g12 : r ≤ 912
                          · have f0 : decide (97 ≤ r) = true := decide_eq_true (by omega)
                            have f1 : decide (65 ≤ r) = true := decide_eq_true (by omega)
                            have f2 : decide (192 ≤ r) = true := decide_eq_true (by omega)
                            have f3 : decide (913 ≤ r) = false := decide_eq_false (by omega)
                            have f4 : decide (r ≤ 122) = false := decide_eq_false (by omega)
                            have f5 : decide (r ≤ 90) = false := decide_eq_false (by omega)
                            have f6 : decide (r ≤ 591) = false := decide_eq_false (by omega)
                            have f7 : decide (r ≤ 969) = true := decide_eq_true (by omega)
                            have q0 : (r == 95) = false := by rw [beq_eq_false_iff_ne]; omega
                            have n0 : (r != 95) = true := by rw [bne_iff_ne]; omega
                            have q1 : (r == 215) = false := by rw [beq_eq_false_iff_ne]; omega
                            have n1 : (r != 215) = true := by rw [bne_iff_ne]; omega
                            have q2 : (r == 247) = false := by rw [beq_eq_false_iff_ne]; omega
                            have n2 : (r != 247) = true := by rw [bne_iff_ne]; omega
                            have q3 : (r == 930) = false := by rw [beq_eq_false_iff_ne]; omega
                            have n3 : (r != 930) = true := by rw [bne_iff_ne]; omega
                            rw [f0, f1, f2, f3, f4, f5, f6, f7, q0, q1, q2, q3] at hv'
                            simp only [Bool.or_true, Bool.true_or, Bool.or_false, Bool.false_or, Bool.and_true, Bool.true_and, Bool.and_false, Bool.false_and, Bool.not_true, Bool.not_false] at hv'
                            subst hv'
                            clear hv g0 g1 g2 g3 g4 g5 g6 g7 g8 g9 g10 g11 g12
                            go_enter Tryd.func39, Tryd.ntmps39
                            go_wp2
                            go_ret
                            exact ⟨rfl, rfl⟩
                          · skip
                            by_cases g13 : r ≤ 929
                            · have f0 : decide (97 ≤ r) = true := decide_eq_true (by omega)
                              have f1 : decide (65 ≤ r) = true := decide_eq_true (by omega)
                              have f2 : decide (192 ≤ r) = true := decide_eq_true (by omega)
                              have f3 : decide (913 ≤ r) = true := decide_eq_true (by omega)
                              have f4 : decide (r ≤ 122) = false := decide_eq_false (by omega)
                              have f5 : decide (r ≤ 90) = false := decide_eq_false (by omega)
                              have f6 : decide (r ≤ 591) = false := decide_eq_false (by omega)
                              have f7 : decide (r ≤ 969) = true := decide_eq_true (by omega)
                              have q0 : (r == 95) = false := by rw [beq_eq_false_iff_ne]; omega
                              have n0 : (r != 95) = true := by rw [bne_iff_ne]; omega
                              have q1 : (r == 215) = false := by rw [beq_eq_false_iff_ne]; omega
                              have n1 : (r != 215) = true := by rw [bne_iff_ne]; omega
                              have q2 : (r == 247) = false := by rw [beq_eq_false_iff_ne]; omega
                              have n2 : (r != 247) = true := by rw [bne_iff_ne]; omega
                              have q3 : (r == 930) = false := by rw [beq_eq_false_iff_ne]; omega
                              have n3 : (r != 930) = true := by rw [bne_iff_ne]; omega
                              rw [f0, f1, f2, f3, f4, f5, f6, f7, q0, q1, q2, q3] at hv'
                              simp only [Bool.or_true, Bool.true_or, Bool.or_false, Bool.false_or, Bool.and_true, Bool.true_and, Bool.and_false, Bool.false_and, Bool.not_true, Bool.not_false] at hv'
                              subst hv'
                              clear hv g0 g1 g2 g3 g4 g5 g6 g7 g8 g9 g10 g11 g12 g13
                              go_enter Tryd.func39, Tryd.ntmps39
                              go_wp2
                              go_ret
                              exact ⟨rfl, rfl⟩
                            · skip
                              by_cases g14 : r ≤ 930
                              · have f0 : decide (97 ≤ r) = true := decide_eq_true (by omega)
                                have f1 : decide (65 ≤ r) = true := decide_eq_true (by omega)
                                have f2 : decide (192 ≤ r) = true := decide_eq_true (by omega)
                                have f3 : decide (913 ≤ r) = true := decide_eq_true (by omega)
                                have f4 : decide (r ≤ 122) = false := decide_eq_false (by omega)
                                have f5 : decide (r ≤ 90) = false := decide_eq_false (by omega)
                                have f6 : decide (r ≤ 591) = false := decide_eq_false (by omega)
                                have f7 : decide (r ≤ 969) = true := decide_eq_true (by omega)
                                have q0 : (r == 95) = false := by rw [beq_eq_false_iff_ne]; omega
                                have n0 : (r != 95) = true := by rw [bne_iff_ne]; omega
                                have q1 : (r == 215) = false := by rw [beq_eq_false_iff_ne]; omega
                                have n1 : (r != 215) = true := by rw [bne_iff_ne]; omega
                                have q2 : (r == 247) = false := by rw [beq_eq_false_iff_ne]; omega
                                have n2 : (r != 247) = true := by rw [bne_iff_ne]; omega
                                have q3 : (r == 930) = true := by rw [beq_iff_eq]; omega
                                have n3 : (r != 930) = false := by rw [bne_eq_false_iff_eq]; omega
                                rw [f0, f1, f2, f3, f4, f5, f6, f7, q0, q1, q2, q3] at hv'
                                simp only [Bool.or_true, Bool.true_or, Bool.or_false, Bool.false_or, Bool.and_true, Bool.true_and, Bool.and_false, Bool.false_and, Bool.not_true, Bool.not_false] at hv'
                                subst hv'
                                clear hv g0 g1 g2 g3 g4 g5 g6 g7 g8 g9 g10 g11 g12 g13 g14
                                go_enter Tryd.func39, Tryd.ntmps39
                                go_wp2
                                go_ret
                                exact ⟨rfl, rfl⟩
                              · skip
                                by_cases g15 : r ≤ 969
                                · have f0 : decide (97 ≤ r) = true := decide_eq_true (by omega)
                                  have f1 : decide (65 ≤ r) = true := decide_eq_true (by omega)
                                  have f2 : decide (192 ≤ r) = true := decide_eq_true (by omega)
                                  have f3 : decide (913 ≤ r) = true := decide_eq_true (by omega)
                                  have f4 : decide (r ≤ 122) = false := decide_eq_false (by omega)
                                  have f5 : decide (r ≤ 90) = false := decide_eq_false (by omega)
                                  have f6 : decide (r ≤ 591) = false := decide_eq_false (by omega)
                                  have f7 : decide (r ≤ 969) = true := decide_eq_true (by omega)
                                  have q0 : (r == 95) = false := by rw [beq_eq_false_iff_ne]; omega
                                  have n0 : (r != 95) = true := by rw [bne_iff_ne]; omega
                                  have q1 : (r == 215) = false := by rw [beq_eq_false_iff_ne]; omega
                                  have n1 : (r != 215) = true := by rw [bne_iff_ne]; omega
                                  have q2 : (r == 247) = false := by rw [beq_eq_false_iff_ne]; omega
                                  have n2 : (r != 247) = true := by rw [bne_iff_ne]; omega
                                  have q3 : (r == 930) = false := by rw [beq_eq_false_iff_ne]; omega
                                  have n3 : (r != 930) = true := by rw [bne_iff_ne]; omega
                                  rw [f0, f1, f2, f3, f4, f5, f6, f7, q0, q1, q2, q3] at hv'
                                  simp only [Bool.or_true, Bool.true_or, Bool.or_false, Bool.false_or, Bool.and_true, Bool.true_and, Bool.and_false, Bool.false_and, Bool.not_true, Bool.not_false] at hv'
                                  subst hv'
                                  clear hv g0 g1 g2 g3 g4 g5 g6 g7 g8 g9 g10 g11 g12 g13 g14 g15
                                  go_enter Tryd.func39, Tryd.ntmps39
                                  go_wp2
                                  go_ret
                                  exact ⟨rfl, rfl⟩
                                · skip
                                  have f0 : decide (97 ≤ r) = true := decide_eq_true (by omega)
                                  have f1 : decide (65 ≤ r) = true := decide_eq_true (by omega)
                                  have f2 : decide (192 ≤ r) = true := decide_eq_true (by omega)
                                  have f3 : decide (913 ≤ r) = true := decide_eq_true (by omega)
                                  have f4 : decide (r ≤ 122) = false := decide_eq_false (by omega)
                                  have f5 : decide (r ≤ 90) = false := decide_eq_false (by omega)
                                  have f6 : decide (r ≤ 591) = false := decide_eq_false (by omega)
                                  have f7 : decide (r ≤ 969) = false := decide_eq_false (by omega)
                                  have q0 : (r == 95) = false := by rw [beq_eq_false_iff_ne]; omega
                                  have n0 : (r != 95) = true := by rw [bne_iff_ne]; omega
                                  have q1 : (r == 215) = false := by rw [beq_eq_false_iff_ne]; omega
                                  have n1 : (r != 215) = true := by rw [bne_iff_ne]; omega
                                  have q2 : (r == 247) = false := by rw [beq_eq_false_iff_ne]; omega
                                  have n2 : (r != 247) = true := by rw [bne_iff_ne]; omega
                                  have q3 : (r == 930) = false := by rw [beq_eq_false_iff_ne]; omega
                                  have n3 : (r != 930) = true := by rw [bne_iff_ne]; omega
                                  rw [f0, f1, f2, f3, f4, f5, f6, f7, q0, q1, q2, q3] at hv'
                                  simp only [Bool.or_true, Bool.true_or, Bool.or_false, Bool.false_or, Bool.and_true, Bool.true_and, Bool.and_false, Bool.false_and, Bool.not_true, Bool.not_false] at hv'
                                  subst hv'
                                  clear hv g0 g1 g2 g3 g4 g5 g6 g7 g8 g9 g10 g11 g12 g13 g14 g15
                                  go_enter Tryd.func39, Tryd.ntmps39
                                  go_wp2
                                  go_ret
                                  exact ⟨rfl, rfl⟩
end Go.Proofs.YtbfhglaaombglaaDoor

/- The reference's word. -/
namespace Go.Proofs.YtbfhglaaombglaaDoor
set_option linter.unusedVariables false
set_option linter.unusedSimpArgs false
open Go.RowKit Go.Proofs.YtbfhglaaombglaaDoorW.PrintWords

theorem nextG_over (s : ByteArray) (p : Nat) (hp : ¬ p < s.size) : nextG s (p : Int) = (0, 0, false) := by
  rw [nextG, if_pos (.inr (by omega))]

set_option maxRecDepth 100000 in
set_option maxHeartbeats 1000000 in
theorem rword_digits (s : ByteArray) (p n : Nat) (w : World) (hs : s.size ≤ 16384) (hp : p ≤ s.size) (hn : Aside0 (runA dgF ((bs s).drop p) = n)) :
    Calls Tryd.prog 40 #[.string s, .int .i64 (p : Int), .bool true] w fun e w' => e = .returned (.int .i64 ((p + n : Nat) : Int)) ∧ w = w' := by
  obtain ⟨m, hm⟩ : ∃ m, p + n = m := ⟨_, rfl⟩
  rw [hm]
  have HM := Aside0.mk hm
  clear hm
  go_enter Tryd.func40, Tryd.ntmps40
  go_wp2_with fail
  go_loop [1] (fun t => ∃ q : Nat, t = .int .i64 (q : Int) ∧ q ≤ s.size ∧ Aside0 (q + runA dgF ((bs s).drop q) = m)) (fun t => s.size - (intOf t).toNat)
  case atStart => exact ⟨p, rfl, hp, ⟨by rw [hn.out, HM.out]⟩⟩
  case round =>
    obtain ⟨q, rfl, hq, HV⟩ := hrel
    by_cases hlt : q < s.size
    · obtain ⟨r, d, hd⟩ : ∃ r d, Utf8.decode s q = (r, d) := ⟨_, _, rfl⟩
      have hn1 := dec_pos s q hlt
      have hn2 := dec_le s q hlt
      rw [hd] at hn1 hn2
      simp only at hn1 hn2
      have hst := HV.out
      rw [runA_step _ _ (by intro e; have := congrArg List.length e; rw [List.length_drop, bs_length] at this; simp at this; omega), ← dec_dL, hd] at hst
      simp only [List.drop_drop] at hst
      by_cases c1 : r = 65533 ∧ d < 2
      · have HG := Aside0.mk (nextG_err s q hlt (by rw [hd]; exact c1))
        have hqm : m = q := by rw [← hst, c1.1, if_neg (by decide)]; rfl
        subst hqm
        clear c1 hst hd
        go_wp2_with fail
        refine (rnext_at s (m : Int) _ (by omega) 0 0 false HG).mono ?_
        rintro e w1 ⟨rfl, rfl⟩
        go_wp2
        go_ret
        exact ⟨rfl, rfl⟩
      · have HG : Aside0 (nextG s (q : Int) = (r, d, true)) := ⟨by rw [nextG_fine s q hlt (by rw [hd]; exact c1), hd]⟩
        clear c1 hd
        cases hg : digitF (r : Int)
        · have HD : Aside0 (digitF (r : Int) = false) := ⟨hg⟩
          have hqm : m = q := by rw [← hst, if_neg (by rw [show dgF r = false from hg]; decide)]; rfl
          subst hqm
          clear hst
          go_wp2_with fail
          refine (rnext_at s (m : Int) _ (by omega) r d true HG).mono ?_
          rintro e w1 ⟨rfl, rfl⟩
          go_wp2_with fail
          refine (rdigit_any (r : Int) _ false HD).mono ?_
          rintro e w1 ⟨rfl, rfl⟩
          go_wp2
          go_ret
          exact ⟨rfl, rfl⟩
        · have HD : Aside0 (digitF (r : Int) = true) := ⟨hg⟩
          have HST2 : Aside0 (q + d + runA dgF ((bs s).drop (q + d)) = m) := ⟨by rw [← hst, if_pos (show dgF r = true from hg)]; omega⟩
          clear hst
          go_wp2_with fail
          refine (rnext_at s (q : Int) _ (by omega) r d true HG).mono ?_
          rintro e w1 ⟨rfl, rfl⟩
          go_wp2_with fail
          refine (rdigit_any (r : Int) _ true HD).mono ?_
          rintro e w1 ⟨rfl, rfl⟩
          go_wp2
          go_round
          case rel => exact ⟨q + d, by go_num, by omega, HST2⟩
          case measure => simp [intOf]; omega
    · have HG := Aside0.mk (nextG_over s q hlt)
      have hqm : m = q := by
        have := HV.out
        rw [List.drop_eq_nil_of_le (by rw [bs_length]; omega), runA_nil] at this
        omega
      subst hqm
      go_wp2_with fail
      refine (rnext_at s (m : Int) _ (by omega) 0 0 false HG).mono ?_
      rintro e w1 ⟨rfl, rfl⟩
      go_wp2
      go_ret
      exact ⟨rfl, rfl⟩

set_option maxRecDepth 100000 in
set_option maxHeartbeats 1000000 in
theorem rword_part (s : ByteArray) (p n : Nat) (w : World) (hs : s.size ≤ 16384) (hp : p ≤ s.size) (hn : Aside0 (runA partF ((bs s).drop p) = n)) :
    Calls Tryd.prog 40 #[.string s, .int .i64 (p : Int), .bool false] w fun e w' => e = .returned (.int .i64 ((p + n : Nat) : Int)) ∧ w = w' := by
  obtain ⟨m, hm⟩ : ∃ m, p + n = m := ⟨_, rfl⟩
  rw [hm]
  have HM := Aside0.mk hm
  clear hm
  go_enter Tryd.func40, Tryd.ntmps40
  go_wp2_with fail
  go_loop [1] (fun t => ∃ q : Nat, t = .int .i64 (q : Int) ∧ q ≤ s.size ∧ Aside0 (q + runA partF ((bs s).drop q) = m)) (fun t => s.size - (intOf t).toNat)
  case atStart => exact ⟨p, rfl, hp, ⟨by rw [hn.out, HM.out]⟩⟩
  case round =>
    obtain ⟨q, rfl, hq, HV⟩ := hrel
    by_cases hlt : q < s.size
    · obtain ⟨r, d, hd⟩ : ∃ r d, Utf8.decode s q = (r, d) := ⟨_, _, rfl⟩
      have hn1 := dec_pos s q hlt
      have hn2 := dec_le s q hlt
      rw [hd] at hn1 hn2
      simp only at hn1 hn2
      have hst := HV.out
      rw [runA_step _ _ (by intro e; have := congrArg List.length e; rw [List.length_drop, bs_length] at this; simp at this; omega), ← dec_dL, hd] at hst
      simp only [List.drop_drop] at hst
      by_cases c1 : r = 65533 ∧ d < 2
      · have HG := Aside0.mk (nextG_err s q hlt (by rw [hd]; exact c1))
        have hqm : m = q := by rw [← hst, c1.1, if_neg (by decide)]; rfl
        subst hqm
        clear c1 hst hd
        go_wp2_with fail
        refine (rnext_at s (m : Int) _ (by omega) 0 0 false HG).mono ?_
        rintro e w1 ⟨rfl, rfl⟩
        go_wp2
        go_ret
        exact ⟨rfl, rfl⟩
      · have HG : Aside0 (nextG s (q : Int) = (r, d, true)) := ⟨by rw [nextG_fine s q hlt (by rw [hd]; exact c1), hd]⟩
        clear c1 hd
        cases hg : digitF (r : Int)
        · cases hl : letterF (r : Int)
          · have HD := Aside0.mk hg
            have HE := Aside0.mk hl
            have hqm : m = q := by rw [← hst, if_neg (by rw [partF, hl, hg]; decide)]; rfl
            subst hqm
            clear hst
            go_wp2_with fail
            refine (rnext_at s (m : Int) _ (by omega) r d true HG).mono ?_
            rintro e w1 ⟨rfl, rfl⟩
            go_wp2_with fail
            refine (rdigit_any (r : Int) _ false HD).mono ?_
            rintro e w1 ⟨rfl, rfl⟩
            go_wp2_with fail
            refine (rletter_any (r : Int) _ false HE).mono ?_
            rintro e w1 ⟨rfl, rfl⟩
            go_wp2
            go_ret
            exact ⟨rfl, rfl⟩
          · have HD := Aside0.mk hg
            have HE := Aside0.mk hl
            have HST2 : Aside0 (q + d + runA partF ((bs s).drop (q + d)) = m) := ⟨by rw [← hst, if_pos (by rw [partF, hl, hg]; rfl)]; omega⟩
            clear hst
            go_wp2_with fail
            refine (rnext_at s (q : Int) _ (by omega) r d true HG).mono ?_
            rintro e w1 ⟨rfl, rfl⟩
            go_wp2_with fail
            refine (rdigit_any (r : Int) _ false HD).mono ?_
            rintro e w1 ⟨rfl, rfl⟩
            go_wp2_with fail
            refine (rletter_any (r : Int) _ true HE).mono ?_
            rintro e w1 ⟨rfl, rfl⟩
            go_wp2
            go_round
            case rel => exact ⟨q + d, by go_num, by omega, HST2⟩
            case measure => simp [intOf]; omega
        · have HD := Aside0.mk hg
          have HST2 : Aside0 (q + d + runA partF ((bs s).drop (q + d)) = m) := ⟨by rw [← hst, if_pos (by rw [partF, hg, Bool.or_true])]; omega⟩
          clear hst
          go_wp2_with fail
          refine (rnext_at s (q : Int) _ (by omega) r d true HG).mono ?_
          rintro e w1 ⟨rfl, rfl⟩
          go_wp2_with fail
          refine (rdigit_any (r : Int) _ true HD).mono ?_
          rintro e w1 ⟨rfl, rfl⟩
          go_wp2
          go_round
          case rel => exact ⟨q + d, by go_num, by omega, HST2⟩
          case measure => simp [intOf]; omega
    · have HG := Aside0.mk (nextG_over s q hlt)
      have hqm : m = q := by
        have := HV.out
        rw [List.drop_eq_nil_of_le (by rw [bs_length]; omega), runA_nil] at this
        omega
      subst hqm
      go_wp2_with fail
      refine (rnext_at s (m : Int) _ (by omega) 0 0 false HG).mono ?_
      rintro e w1 ⟨rfl, rfl⟩
      go_wp2
      go_ret
      exact ⟨rfl, rfl⟩
end Go.Proofs.YtbfhglaaombglaaDoor

/- The reference's Tokens. -/
namespace Go.Proofs.YtbfhglaaombglaaDoor
set_option linter.unusedVariables false
set_option linter.unusedSimpArgs false
open Go.RowKit Go.Proofs.YtbfhglaaombglaaDoorW.PrintWords

theorem rtokens_big (s : ByteArray) (w : World) (hs : 16384 < s.size) :
    Calls Tryd.prog 18 #[.string s] w fun e w' => e = .returned (.tuple #[.slice none 0 0, .int .i64 0, .int .i64 4]) ∧ w = w' := by
  have hb1 : decide (16384 < s.size) = true := decide_eq_true hs
  have hb2 : decide ((16384 : Int) < (s.size : Int)) = true := decide_eq_true (by omega)
  go_enter Tryd.func18, Tryd.ntmps18
  go_wp2
  go_ret3
  exact ⟨rfl, rfl⟩

theorem decN_cont (n b0 b1 b2 b3 : Nat) : (1 < (Lib.decodeN n b0 b1 b2 b3).2 → 128 ≤ b1) ∧ (2 < (Lib.decodeN n b0 b1 b2 b3).2 → 128 ≤ b2) ∧ (3 < (Lib.decodeN n b0 b1 b2 b3).2 → 128 ≤ b3) ∧ (Lib.decodeN n b0 b1 b2 b3).2 ≤ 4 := by
  unfold Lib.decodeN
  repeat' split
  all_goals simp only
  all_goals omega
/-- How many bytes there are to a line's end. -/
def lineL : List Nat → Nat
  | [] => 0
  | b :: u => if b = 10 then 0 else 1 + lineL u
theorem lineL_more : ∀ (k : Nat) (u : List Nat), k ≤ u.length → (∀ i, i < k → u.getD i 0 ≠ 10) → lineL u = k + lineL (u.drop k) := by
  intro k
  induction k with
  | zero => intro u _ _; simp
  | succ k ih =>
    intro u h hu
    cases u with
    | nil => simp at h
    | cons b u =>
      have hb : b ≠ 10 := hu 0 (by omega)
      rw [lineL, if_neg hb, ih u (by simpa using h) (fun i hi => hu (i + 1) (by omega))]
      simp only [List.drop_succ_cons]
      omega
theorem runA_line : ∀ k (u : List Nat), u.length ≤ k → runA nlF u = lineL u := by
  intro k
  induction k with
  | zero =>
    intro u h
    have : u = [] := List.eq_nil_of_length_eq_zero (by omega)
    subst this
    rfl
  | succ k ih =>
    intro u h
    by_cases hu : u = []
    · subst hu; rfl
    · have h1 := dL_pos u
      have h2 := dL_le u hu
      rw [runA_step nlF u hu]
      by_cases h0 : u.getD 0 0 < 128
      · rw [dL_head u h0]
        cases u with
        | nil => exact absurd rfl hu
        | cons b u =>
          have hb : (b :: u).getD 0 0 = b := rfl
          rw [hb]
          by_cases h10 : b = 10
          · subst h10
            simp [nlF, lineL]
          · rw [lineL, if_neg h10, if_pos (by simp [nlF, h10]), List.drop_succ_cons, List.drop_zero, ih u (by simpa using h)]
      · have hge := decN_ge u.length (u.getD 0 0) (u.getD 1 0) (u.getD 2 0) (u.getD 3 0) h0
        have hc := decN_cont u.length (u.getD 0 0) (u.getD 1 0) (u.getD 2 0) (u.getD 3 0)
        have e : dL u = Lib.decodeN u.length (u.getD 0 0) (u.getD 1 0) (u.getD 2 0) (u.getD 3 0) := rfl
        rw [← e] at hge hc
        rw [if_pos (by simp [nlF]; omega), ih (u.drop (dL u).2) (by rw [List.length_drop]; omega)]
        refine (lineL_more _ u h2 fun i hi => ?_).symm
        have hi4 : i = 0 ∨ i = 1 ∨ i = 2 ∨ i = 3 := by omega
        rcases hi4 with rfl | rfl | rfl | rfl
        · omega
        · have := hc.1 (by omega); omega
        · have := hc.2.1 (by omega); omega
        · have := hc.2.2.1 (by omega); omega
theorem drop_cons (s : ByteArray) (q : Nat) (h : q < s.size) : (bs s).drop q = bt8 s q :: (bs s).drop (q + 1) := by
  have hl : q < (bs s).length := by rw [bs_length]; exact h
  rw [List.drop_eq_getElem_cons hl, ← bs_getD, List.getD_eq_getElem?_getD, List.getElem?_eq_getElem hl]
  rfl
theorem own_far {s : ByteArray} {base : Nat} {w : World} {v : Value} {l : List (Nat × Nat × Nat)} (h : Toks s base w v l) (g : Nat) (hg : w.heap.size ≤ g) : some g ≠ v.ownBlock := by
  rcases h.2 with ⟨rfl, _⟩ | ⟨g', cap, cur, rfl, _, hh, _⟩
  · simp [Value.ownBlock]
  · intro he
    have e : g = g' := by simpa [Value.ownBlock] using he
    have := (Array.getElem?_eq_some_iff.1 hh).1
    omega

set_option maxRecDepth 100000 in
set_option maxHeartbeats 8000000 in
theorem rtokens_run (s : ByteArray) (w : World) (hs : s.size ≤ 16384) (L : List (Nat × Nat × Nat)) (E : Option (Nat × Nat)) (hR : Aside0 (toksA 0 (bs s) = (L, E))) :
    Calls Tryd.prog 18 #[.string s] w (TokPost s w L E) := by
  have hb1 : decide (16384 < s.size) = false := decide_eq_false (by omega)
  have hb2 : decide ((16384 : Int) < (s.size : Int)) = false := decide_eq_false (by omega)
  go_enter Tryd.func18, Tryd.ntmps18
  go_wp2_with fail
  go_loopw [5, 6] (fun v u wr => ∃ (v' : Value) (p : Nat) (acc : List (Nat × Nat × Nat)), v' = v ∧ u = .int .i64 (p : Int) ∧ p ≤ s.size ∧ acc.length ≤ p ∧ Aside0 (acc ++ (toksA p ((bs s).drop p)).1 = L) ∧ Aside0 ((toksA p ((bs s).drop p)).2 = E) ∧ Aside0 (Toks s w.heap.size wr v' acc) ∧ Aside0 (Below w.heap.size w wr)) (fun _ u _ => s.size - (intOf u).toNat)
  case atStart => exact ⟨_, 0, [], rfl, rfl, by omega, Nat.zero_le _, ⟨by rw [List.drop_zero, hR.out]; rfl⟩, ⟨by rw [List.drop_zero, hR.out]⟩, ⟨⟨rfl, .inl ⟨rfl, rfl⟩⟩⟩, ⟨Below.refl _ _⟩⟩
  case round =>
    obtain ⟨v0, p, acc, rfl, rfl, hp, hacc, HL, HE, HO, HB⟩ := hrel
    by_cases hlt : p < s.size
    · obtain ⟨u, hu⟩ : ∃ u, (bs s).drop p = u := ⟨_, rfl⟩
      have hu0 : u ≠ [] := by intro e; rw [e] at hu; have := congrArg List.length hu; rw [List.length_drop, bs_length] at this; simp at this; omega
      obtain ⟨x, hx⟩ : ∃ x, bt8 s p = x := ⟨_, rfl⟩
      have hx0 : u.getD 0 0 = x := by rw [← hu, getD_drop', Nat.add_zero, bs_getD, hx]
      have hsi : (s[p]'hlt).toNat = x := by rw [bt8_at, hx]
      have hxl : x < 256 := by rw [← hx]; exact bt8_lt s p
      obtain ⟨r, d, hd⟩ : ∃ r d, dL u = (r, d) := ⟨_, _, rfl⟩
      have hdec : Utf8.decode s p = (r, d) := by rw [dec_dL, hu, hd]
      have hul : u.length = s.size - p := by rw [← hu, List.length_drop, bs_length]
      have hl := HL.out
      have he := HE.out
      rw [hu] at hl he
      have hst : stepL u = _ := rfl
      conv at hst => rhs; unfold stepL
      rw [hd, hx0] at hst
      simp only at hst
      by_cases c2 : blankB x = true
      · have hxlow := blank_low c2
        have hdx := dL_head u (by rw [hx0]; exact hxlow)
        rw [hx0, hd] at hdx
        cases hdx
        rw [if_neg (by omega), if_pos c2] at hst
        rw [toksA_blank p u hu0 1 hst, ← hu, List.drop_drop] at hl he
        have HL2 := Aside0.mk hl
        have HE2 := Aside0.mk he
        have hcs : x = 32 ∨ x = 9 ∨ x = 13 ∨ x = 10 := by simp [blankB] at c2; omega
        clear hst hu hl he HL HE c2 hd hdec hx hx0 hxl hxlow
        rcases hcs with rfl | rfl | rfl | rfl
        all_goals (
          go_wp2
          go_roundw
          case rel => exact ⟨v0, p + 1, acc, rfl, by go_num, by omega, by omega, HL2, HE2, HO, HB⟩
          case measure => simp [intOf]; omega)
      · have hne : x ≠ 32 ∧ x ≠ 9 ∧ x ≠ 13 ∧ x ≠ 10 := by simp [blankB] at c2; omega
        have e1 : ((x : Int) == 32) = false := beq_eq_false_iff_ne.2 (by omega)
        have e2 : ((x : Int) == 9) = false := beq_eq_false_iff_ne.2 (by omega)
        have e3 : ((x : Int) == 13) = false := beq_eq_false_iff_ne.2 (by omega)
        have e4 : ((x : Int) == 10) = false := beq_eq_false_iff_ne.2 (by omega)
        by_cases c3 : slashB u = true
        · obtain ⟨s1, s2⟩ := slash_dL c3
          rw [hd] at s1
          cases s1
          rw [if_neg (by omega), if_neg c2, if_pos c3] at hst
          obtain ⟨n, hn⟩ : ∃ n, runA nlF u = n := ⟨_, rfl⟩
          rw [hn] at hst
          obtain ⟨hb3, hb4, hb5⟩ := step_bound u hu0 0 n hst
          rw [toksA_blank p u hu0 n hst, ← hu, List.drop_drop] at hl he
          have HL2 := Aside0.mk hl
          have HE2 := Aside0.mk he
          obtain ⟨p1, hp1e⟩ : ∃ p1, p + 1 = p1 := ⟨_, rfl⟩
          have hp1 : p1 < s.size := by omega
          have hy0 : bt8 s p1 = 47 := by
            have := c3
            simp only [slashB, Bool.and_eq_true, beq_iff_eq] at this
            rw [← hu, getD_drop', getD_drop', bs_getD, bs_getD, hp1e] at this
            exact this.2
          have hx47 : x = 47 := by
            have := c3
            simp only [slashB, Bool.and_eq_true, beq_iff_eq] at this
            rw [← hx0]; exact this.1
          have hsi2 : (s[p1]'hp1).toNat = 47 := by rw [bt8_at, hy0]
          have hp1i : (p : Int) + 1 = (p1 : Int) := by omega
          have hb9 : decide ((p1 : Int) < (s.size : Int)) = true := decide_eq_true (by omega)
          have hb9n : decide (p1 < s.size) = true := decide_eq_true hp1
          have HLN : Aside0 (p + lineL ((bs s).drop p) = p + n) := ⟨by rw [hu, ← runA_line _ u (Nat.le_refl _), hn]⟩
          subst hx47
          clear hst hu hl he HL HE c3 hn hd hdec hx hx0 hy0 c2
          go_wp2_with fail
          go_loop [6] (fun z => ∃ q : Nat, z = .int .i64 (q : Int) ∧ q ≤ s.size ∧ Aside0 (q + lineL ((bs s).drop q) = p + n)) (fun z => s.size - (intOf z).toNat)
          case atStart => exact ⟨p, rfl, by omega, HLN⟩
          case round =>
            obtain ⟨q, rfl, hq, HV⟩ := hrel
            by_cases hq2 : q < s.size
            · obtain ⟨y, hy⟩ : ∃ y, bt8 s q = y := ⟨_, rfl⟩
              have hsq : (s[q]'hq2).toNat = y := by rw [bt8_at, hy]
              have hv := HV.out
              rw [drop_cons s q hq2, hy, lineL] at hv
              by_cases hy10 : y = 10
              · rw [if_pos hy10] at hv
                subst hy10
                have hqe : p + n = q := by omega
                rw [hqe] at HL2 HE2
                clear hy hv HV
                go_wp2
                go_roundw
                case rel => exact ⟨v0, q, acc, rfl, by go_num, by omega, by omega, HL2, HE2, HO, HB⟩
                case measure => simp [intOf]; omega
              · rw [if_neg hy10] at hv
                have hyb : ((y : Int) != 10) = true := by rw [bne_iff_ne]; omega
                have HV2 : Aside0 (q + 1 + lineL ((bs s).drop (q + 1)) = p + n) := ⟨by omega⟩
                clear hy hv HV hy10
                go_wp2
                go_round
                case rel => exact ⟨q + 1, by go_num, by omega, HV2⟩
                case measure => simp [intOf]; omega
            · have hv := HV.out
              rw [List.drop_eq_nil_of_le (by rw [bs_length]; omega), lineL] at hv
              have hqe : p + n = q := by omega
              rw [hqe] at HL2 HE2
              clear hv HV
              go_wp2
              go_roundw
              case rel => exact ⟨v0, q, acc, rfl, by go_num, by omega, by omega, HL2, HE2, HO, HB⟩
              case measure => simp [intOf]; omega
        · by_cases hx47 : x = 47
          · -- a '/' alone
            have hdx := dL_head u (by rw [hx0]; omega)
            rw [hx0, hd] at hdx
            cases hdx
            subst hx47
            rw [if_neg (by omega), if_neg c2, if_neg c3, if_neg (by decide), if_neg (by decide), if_neg (by decide)] at hst
            have HG : Aside0 (nextG s (p : Int) = (47, 1, true)) := ⟨by rw [nextG_fine s p hlt (by rw [hdec]; simp), hdec]⟩
            have HC4 : Aside0 (letterF ((47 : Nat) : Int) = false) := ⟨by decide⟩
            have HC5 : Aside0 (digitF ((47 : Nat) : Int) = false) := ⟨by decide⟩
            by_cases hp1 : p + 1 < s.size
            · obtain ⟨y, hy⟩ : ∃ y, bt8 s (p + 1) = y := ⟨_, rfl⟩
              have hyne : y ≠ 47 := by
                intro e
                apply c3
                simp only [slashB, Bool.and_eq_true, beq_iff_eq]
                rw [hx0, ← hu, getD_drop', bs_getD, hy]
                exact ⟨rfl, e⟩
              have hyb : ((y : Int) == 47) = false := beq_eq_false_iff_ne.2 (by omega)
              obtain ⟨p1, hp1e⟩ : ∃ p1, p + 1 = p1 := ⟨_, rfl⟩
              have hp1i : (p : Int) + 1 = (p1 : Int) := by omega
              have hcut1 := fun W => cut_str s p p1 (by omega) (by omega) W
              have hsi2 : (s[p1]'(by omega)).toNat = y := by subst hp1e; rw [bt8_at _ _ hp1, hy]
              have hp1l : p1 < s.size := by omega
              have hb9 : decide ((p1 : Int) < (s.size : Int)) = true := decide_eq_true (by omega)
              have hb9n : decide (p1 < s.size) = true := decide_eq_true hp1l
              rw [toksA_err p u hu0 5 hst] at hl he
              simp only [List.append_nil] at hl
              subst hl he
              clear hst hu HL HE hd hdec hx hx0 hy c3 c2
              go_wp2_with fail
              refine (rnext_at s (p : Int) _ (by omega) 47 1 true HG).mono ?_
              rintro e w3 ⟨rfl, rfl⟩
              go_wp2_with fail
              refine (rletter_any ((47 : Nat) : Int) _ false HC4).mono ?_
              rintro e w3 ⟨rfl, rfl⟩
              go_wp2_with fail
              refine (rdigit_any ((47 : Nat) : Int) _ false HC5).mono ?_
              rintro e w3 ⟨rfl, rfl⟩
              go_wp2
              go_ret3
              exact ⟨rfl, ⟨HB.out.alloc HB.out.size _⟩⟩
            · obtain ⟨p1, hp1e⟩ : ∃ p1, p + 1 = p1 := ⟨_, rfl⟩
              have hp1i : (p : Int) + 1 = (p1 : Int) := by omega
              have hcut1 := fun W => cut_str s p p1 (by omega) (by omega) W
              have hb9 : decide ((p1 : Int) < (s.size : Int)) = false := decide_eq_false (by omega)
              have hb9n : decide (p1 < s.size) = false := decide_eq_false (by omega)
              rw [toksA_err p u hu0 5 hst] at hl he
              simp only [List.append_nil] at hl
              subst hl he
              clear hst hu HL HE hd hdec hx hx0 c3 c2
              go_wp2_with fail
              refine (rnext_at s (p : Int) _ (by omega) 47 1 true HG).mono ?_
              rintro e w3 ⟨rfl, rfl⟩
              go_wp2_with fail
              refine (rletter_any ((47 : Nat) : Int) _ false HC4).mono ?_
              rintro e w3 ⟨rfl, rfl⟩
              go_wp2_with fail
              refine (rdigit_any ((47 : Nat) : Int) _ false HC5).mono ?_
              rintro e w3 ⟨rfl, rfl⟩
              go_wp2
              go_ret3
              exact ⟨rfl, ⟨HB.out.alloc HB.out.size _⟩⟩
          · have e5 : ((x : Int) == 47) = false := beq_eq_false_iff_ne.2 (by omega)
            by_cases c1 : r = 65533 ∧ d < 2
            · rw [if_pos c1] at hst
              rw [toksA_err p u hu0 9 hst] at hl he
              simp only [List.append_nil] at hl
              have HG := Aside0.mk (nextG_err s p hlt (by rw [hdec]; exact c1))
              subst hl he
              clear c1 hst hd hdec hx hu HL HE
              go_wp2_with fail
              refine (rnext_at s (p : Int) _ (by omega) 0 0 false HG).mono ?_
              rintro e w3 ⟨rfl, rfl⟩
              go_wp2
              go_ret3
              exact ⟨rfl, HB⟩
            · rw [if_neg c1, if_neg c2, if_neg c3] at hst
              have HG : Aside0 (nextG s (p : Int) = (r, d, true)) := ⟨by rw [nextG_fine s p hlt (by rw [hdec]; exact c1), hdec]⟩
              clear c1 c2 c3
              by_cases c4 : letterF (r : Int) = true
              · have HC4 := Aside0.mk c4
                rw [if_pos c4] at hst
                clear c4
                obtain ⟨n, hn⟩ : ∃ n, runA partF u = n := ⟨_, rfl⟩
                rw [hn] at hst
                obtain ⟨hb3, hb4, hb5⟩ := step_bound u hu0 1 n hst
                rw [toksA_tok p u hu0 0 n hst, ← hu, List.drop_drop] at hl he
                have HN : Aside0 (runA partF ((bs s).drop p) = n) := ⟨by rw [hu, hn]⟩
                have HL2 : Aside0 ((acc ++ [(1, p, n)]) ++ (toksA (p + n) ((bs s).drop (p + n))).1 = L) := ⟨by rw [List.append_assoc]; exact hl⟩
                have HE2 := Aside0.mk he
                obtain ⟨m, hm⟩ : ∃ m, p + n = m := ⟨_, rfl⟩
                have hmi : (p : Int) + (n : Int) = (m : Int) := by omega
                have hcut := fun W => cut_str s p m (by omega) (by omega) W
                obtain ⟨tx, htx⟩ : ∃ tx, s.extract p m = tx := ⟨_, rfl⟩
                simp only [htx] at hcut
                have hts : tx.size = n := by rw [← htx, ByteArray.size_extract]; omega
                have HX := Aside0.mk htx
                obtain ⟨p1, hp1e⟩ : ∃ p1, p + 1 = p1 := ⟨_, rfl⟩
                have hp1i : (p : Int) + 1 = (p1 : Int) := by omega
                have hcut1 := fun W => cut_str s p p1 (by omega) (by omega) W
                clear hst hu hl he HL HE hn htx hd hdec hx hx0
                go_wp2_with fail
                refine (rnext_at s (p : Int) _ (by omega) r d true HG).mono ?_
                rintro e w3 ⟨rfl, rfl⟩
                go_wp2_with fail
                refine (rletter_any (r : Int) _ true HC4).mono ?_
                rintro e w3 ⟨rfl, rfl⟩
                go_wp2_with fail
                refine (rword_part s p n _ hs (by omega) HN).mono ?_
                rintro e w3 ⟨rfl, rfl⟩
                rw [hm]
                go_wp2_with (at_builtin; go_must (refine print_append_cells (w0 := w) w.heap.size rfl _ _ 49 59 _ 3 32 rfl Tryd.underlying49 infoTok rfl (by omega) (by omega) _ acc.length (tvals s acc) [.int .i64 1, .string tx, .int .i64 (p : Int)] rfl (Eq.trans (b := .slice (some ⟨wr.heap.size + 1, 0, none⟩) 1 1) rfl (by simp)) rfl (by simp [Value.oneCell']) (by exact pw_own_below HO.out ((Below.refl _ _).alloc (Nat.le_refl _) _)) (by exact HB.out.alloc HB.out.size _) (by have := HB.out.size; simp; omega) (by omega) ?_; intro v1 w4 hO4 hB4 hg4 _; have hc4 : w4.cell? ⟨wr.heap.size, 1, none⟩ = some (.string tx) := (blk_cell (blk_grown (heap_alloc_new wr _) hg4 (own_far HO.out _ (Nat.le_refl _))) 1)))
                go_roundw
                case rel => exact ⟨v1, m, acc ++ [(1, p, n)], rfl, by go_num, by omega, by simp; omega, by rw [← hm]; exact HL2, by rw [← hm]; exact HE2, ⟨by rw [Toks, tvals_snoc, List.length_append]; simp only; rw [hm, HX.out]; exact hO4⟩, ⟨hB4⟩⟩
                case measure => simp [intOf]; omega
              · have HC4 : Aside0 (letterF (r : Int) = false) := ⟨by simpa using c4⟩
                rw [if_neg c4] at hst
                clear c4
                by_cases c5 : dgF r = true
                · have HC5 : Aside0 (digitF (r : Int) = true) := ⟨c5⟩
                  rw [if_pos c5] at hst
                  clear c5
                  obtain ⟨n, hn⟩ : ∃ n, runA dgF u = n := ⟨_, rfl⟩
                  rw [hn] at hst
                  obtain ⟨hb3, hb4, hb5⟩ := step_bound u hu0 2 n hst
                  rw [toksA_tok p u hu0 1 n hst, ← hu, List.drop_drop] at hl he
                  have HN : Aside0 (runA dgF ((bs s).drop p) = n) := ⟨by rw [hu, hn]⟩
                  have HL2 : Aside0 ((acc ++ [(2, p, n)]) ++ (toksA (p + n) ((bs s).drop (p + n))).1 = L) := ⟨by rw [List.append_assoc]; exact hl⟩
                  have HE2 := Aside0.mk he
                  obtain ⟨m, hm⟩ : ∃ m, p + n = m := ⟨_, rfl⟩
                  have hmi : (p : Int) + (n : Int) = (m : Int) := by omega
                  have hcut := fun W => cut_str s p m (by omega) (by omega) W
                  obtain ⟨tx, htx⟩ : ∃ tx, s.extract p m = tx := ⟨_, rfl⟩
                  simp only [htx] at hcut
                  have hts : tx.size = n := by rw [← htx, ByteArray.size_extract]; omega
                  have HX := Aside0.mk htx
                  obtain ⟨p1, hp1e⟩ : ∃ p1, p + 1 = p1 := ⟨_, rfl⟩
                  have hp1i : (p : Int) + 1 = (p1 : Int) := by omega
                  have hcut1 := fun W => cut_str s p p1 (by omega) (by omega) W
                  clear hst hu hl he HL HE hn htx hd hdec hx hx0
                  go_wp2_with fail
                  refine (rnext_at s (p : Int) _ (by omega) r d true HG).mono ?_
                  rintro e w3 ⟨rfl, rfl⟩
                  go_wp2_with fail
                  refine (rletter_any (r : Int) _ false HC4).mono ?_
                  rintro e w3 ⟨rfl, rfl⟩
                  go_wp2_with fail
                  refine (rdigit_any (r : Int) _ true HC5).mono ?_
                  rintro e w3 ⟨rfl, rfl⟩
                  go_wp2_with fail
                  refine (rword_digits s p n _ hs (by omega) HN).mono ?_
                  rintro e w3 ⟨rfl, rfl⟩
                  rw [hm]
                  go_wp2_with (at_builtin; go_must (refine print_append_cells (w0 := w) w.heap.size rfl _ _ 49 59 _ 3 32 rfl Tryd.underlying49 infoTok rfl (by omega) (by omega) _ acc.length (tvals s acc) [.int .i64 2, .string tx, .int .i64 (p : Int)] rfl (Eq.trans (b := .slice (some ⟨wr.heap.size + 1, 0, none⟩) 1 1) rfl (by simp)) rfl (by simp [Value.oneCell']) (by exact pw_own_below HO.out ((Below.refl _ _).alloc (Nat.le_refl _) _)) (by exact HB.out.alloc HB.out.size _) (by have := HB.out.size; simp; omega) (by omega) ?_; intro v1 w4 hO4 hB4 hg4 _; have hc4 : w4.cell? ⟨wr.heap.size, 1, none⟩ = some (.string tx) := (blk_cell (blk_grown (heap_alloc_new wr _) hg4 (own_far HO.out _ (Nat.le_refl _))) 1)))
                  go_roundw
                  case rel => exact ⟨v1, m, acc ++ [(2, p, n)], rfl, by go_num, by omega, by simp; omega, by rw [← hm]; exact HL2, by rw [← hm]; exact HE2, ⟨by rw [Toks, tvals_snoc, List.length_append]; simp only; rw [hm, HX.out]; exact hO4⟩, ⟨hB4⟩⟩
                  case measure => simp [intOf]; omega
                · have HC5 : Aside0 (digitF (r : Int) = false) := ⟨by simpa [dgF] using c5⟩
                  rw [if_neg c5] at hst
                  clear c5
                  by_cases c6 : signB x = true
                  · rw [if_pos c6] at hst
                    rw [toksA_tok p u hu0 2 1 hst, ← hu, List.drop_drop] at hl he
                    have HL2 : Aside0 ((acc ++ [(3, p, 1)]) ++ (toksA (p + 1) ((bs s).drop (p + 1))).1 = L) := ⟨by rw [List.append_assoc]; exact hl⟩
                    have HE2 := Aside0.mk he
                    obtain ⟨m, hm⟩ : ∃ m, p + 1 = m := ⟨_, rfl⟩
                    have hmi : (p : Int) + 1 = (m : Int) := by omega
                    have hcut := fun W => cut_str s p m (by omega) (by omega) W
                    obtain ⟨tx, htx⟩ : ∃ tx, s.extract p m = tx := ⟨_, rfl⟩
                    simp only [htx] at hcut
                    have hts : tx.size = 1 := by rw [← htx, ByteArray.size_extract]; omega
                    have HX := Aside0.mk htx
                    have hcs : x = 123 ∨ x = 125 ∨ x = 40 ∨ x = 41 ∨ x = 59 ∨ x = 61 ∨ x = 44 := by simp [signB] at c6; omega
                    clear hst hu hl he HL HE htx hd hdec hx hx0 c6
                    go_wp2_with fail
                    refine (rnext_at s (p : Int) _ (by omega) r d true HG).mono ?_
                    rintro e w3 ⟨rfl, rfl⟩
                    go_wp2_with fail
                    refine (rletter_any (r : Int) _ false HC4).mono ?_
                    rintro e w3 ⟨rfl, rfl⟩
                    go_wp2_with fail
                    refine (rdigit_any (r : Int) _ false HC5).mono ?_
                    rintro e w3 ⟨rfl, rfl⟩
                    rcases hcs with rfl | rfl | rfl | rfl | rfl | rfl | rfl
                    all_goals (
                      go_wp2_with (at_builtin; go_must (refine print_append_cells (w0 := w) w.heap.size rfl _ _ 49 59 _ 3 32 rfl Tryd.underlying49 infoTok rfl (by omega) (by omega) _ acc.length (tvals s acc) [.int .i64 3, .string tx, .int .i64 (p : Int)] rfl (Eq.trans (b := .slice (some ⟨wr.heap.size + 1, 0, none⟩) 1 1) rfl (by simp)) rfl (by simp [Value.oneCell']) (by exact pw_own_below HO.out ((Below.refl _ _).alloc (Nat.le_refl _) _)) (by exact HB.out.alloc HB.out.size _) (by have := HB.out.size; simp; omega) (by omega) ?_; intro v1 w4 hO4 hB4 hg4 _; have hc4 : w4.cell? ⟨wr.heap.size, 1, none⟩ = some (.string tx) := (blk_cell (blk_grown (heap_alloc_new wr _) hg4 (own_far HO.out _ (Nat.le_refl _))) 1)))
                      go_roundw
                      case rel => exact ⟨v1, m, acc ++ [(3, p, 1)], rfl, by go_num, by omega, by simp; omega, by rw [← hm]; exact HL2, by rw [← hm]; exact HE2, ⟨by rw [Toks, tvals_snoc, List.length_append]; simp only; rw [hm, HX.out]; exact hO4⟩, ⟨hB4⟩⟩
                      case measure => simp [intOf]; omega)
                  · rw [if_neg c6] at hst
                    have hns : x ≠ 123 ∧ x ≠ 125 ∧ x ≠ 40 ∧ x ≠ 41 ∧ x ≠ 59 ∧ x ≠ 61 ∧ x ≠ 44 := by simp [signB] at c6; omega
                    have z1 : ((x : Int) == 123) = false := beq_eq_false_iff_ne.2 (by omega)
                    have z2 : ((x : Int) == 125) = false := beq_eq_false_iff_ne.2 (by omega)
                    have z3 : ((x : Int) == 40) = false := beq_eq_false_iff_ne.2 (by omega)
                    have z4 : ((x : Int) == 41) = false := beq_eq_false_iff_ne.2 (by omega)
                    have z5 : ((x : Int) == 59) = false := beq_eq_false_iff_ne.2 (by omega)
                    have z6 : ((x : Int) == 61) = false := beq_eq_false_iff_ne.2 (by omega)
                    have z7 : ((x : Int) == 44) = false := beq_eq_false_iff_ne.2 (by omega)
                    clear c6
                    rw [toksA_err p u hu0 5 hst] at hl he
                    simp only [List.append_nil] at hl
                    subst hl he
                    obtain ⟨p1, hp1e⟩ : ∃ p1, p + 1 = p1 := ⟨_, rfl⟩
                    have hp1i : (p : Int) + 1 = (p1 : Int) := by omega
                    have hcut1 := fun W => cut_str s p p1 (by omega) (by omega) W
                    clear hst hu HL HE hd hdec hx hx0
                    go_wp2_with fail
                    refine (rnext_at s (p : Int) _ (by omega) r d true HG).mono ?_
                    rintro e w3 ⟨rfl, rfl⟩
                    go_wp2_with fail
                    refine (rletter_any (r : Int) _ false HC4).mono ?_
                    rintro e w3 ⟨rfl, rfl⟩
                    go_wp2_with fail
                    refine (rdigit_any (r : Int) _ false HC5).mono ?_
                    rintro e w3 ⟨rfl, rfl⟩
                    go_wp2
                    go_ret3
                    exact ⟨rfl, ⟨HB.out.alloc HB.out.size _⟩⟩
    · have hl := HL.out
      have he := HE.out
      rw [List.drop_eq_nil_of_le (by rw [bs_length]; omega), toksA_nil] at hl he
      simp only [List.append_nil] at hl
      subst hl he
      clear HL HE
      go_wp2
      go_ret3
      exact ⟨v0, rfl, HO, HB⟩
end Go.Proofs.YtbfhglaaombglaaDoor

/- Number, and the reference's. -/
namespace Go.Proofs.YtbfhglaaombglaaDoor
set_option linter.unusedVariables false
set_option linter.unusedSimpArgs false
open Go.RowKit Go.Proofs.YtbfhglaaombglaaDoorW.PrintWords

/-- The number that digits are, behind a number. -/
def numL : Nat → List Nat → Option Nat
  | a, [] => some a
  | a, b :: u => if 48 ≤ b ∧ b ≤ 57 then numL (10 * a + (b - 48)) u else none
def numF (s : ByteArray) : Nat × Bool :=
  if s.size < 1 ∨ 10 < s.size ∨ (1 < s.size ∧ bt8 s 0 = 48) then (0, false) else match numL 0 (bs s) with
    | none => (0, false)
    | some v => (v, true)
theorem str_empty (s : ByteArray) (b : Bool) (h : decide (s.size = 0) = b) : (s.toList == []) = b := by
  rw [ByteArray.toList_eq, ← h]
  have e : s.data.toList.length = s.size := Array.length_toList
  cases hl : s.data.toList with
  | nil => rw [hl] at e; simp at e; simp [e.symm]
  | cons x l => rw [hl] at e; simp at e; simp [e.symm]
theorem pow10 (p : Nat) (h : p ≤ 10) : 10 ^ p ≤ 10000000000 := Nat.le_trans (Nat.pow_le_pow_right (by omega) h) (by decide)

set_option maxRecDepth 100000 in
set_option maxHeartbeats 2000000 in
theorem number_run (s : ByteArray) (w : World) (h1 : 1 ≤ s.size) (h2 : s.size ≤ 10) (h3 : ¬ (1 < s.size ∧ bt8 s 0 = 48)) (v : Nat) (ok : Bool) (hv : Aside0 (numF s = (v, ok))) :
    Calls Tryd.prog 65 #[.string s] w fun e w' => e = .returned (.tuple #[.int .i64 (v : Int), .bool ok]) ∧ Aside0 (Below w.heap.size w w') := by
  have e0 := str_empty s false (decide_eq_false (by omega))
  have e1 : decide (10 < s.size) = false := decide_eq_false (by omega)
  have e2 : decide ((10 : Int) < (s.size : Int)) = false := decide_eq_false (by omega)
  have hx0 : 0 < s.size := by omega
  obtain ⟨x, hx⟩ : ∃ x, bt8 s 0 = x := ⟨_, rfl⟩
  have hsi0 : (s[0]'hx0).toNat = x := by rw [bt8_at, hx]
  rw [hx] at h3
  obtain ⟨b1, hb1⟩ : ∃ b, decide (1 < s.size) = b := ⟨_, rfl⟩
  have hb1i : decide ((1 : Int) < (s.size : Int)) = b1 := by rw [← hb1]; exact decide_eq_decide.2 (by omega)
  obtain ⟨b2, hb2⟩ : ∃ b, ((x : Int) == 48) = b := ⟨_, rfl⟩
  have hbb : b1 = true → b2 = false := by
    intro h
    rw [← hb1] at h
    rw [← hb2, beq_eq_false_iff_ne]
    intro e
    exact h3 ⟨of_decide_eq_true h, by omega⟩
  have HO : Aside0 (numF s = match numL 0 (bs s) with | none => (0, false) | some v => (v, true)) := ⟨by rw [numF, if_neg (by rw [hx]; omega)]⟩
  rw [hv.out] at HO
  clear hv hx h3
  go_enter Tryd.func65, Tryd.ntmps65
  have key : ∀ K : Prop, (b1 = false → K) → (b1 = true → b2 = false → K) → K := by
    intro K k1 k2
    cases b1 with
    | false => exact k1 rfl
    | true => exact k2 rfl (hbb rfl)
  refine key _ (fun q1 => ?_) (fun q1 q2 => ?_)
  all_goals (
    clear key hbb
    try subst q2
    subst q1
    go_wp2_with fail
    go_loopw [4] (fun z wr => ∃ (pos a : Nat), z = .int .i64 (a : Int) ∧ pos ≤ s.size ∧ Aside0 (a < 10 ^ pos) ∧ Aside0 (wr.heap[w.heap.size]? = some (.stringIter s pos)) ∧ Aside0 (numL 0 (bs s) = numL a ((bs s).drop pos)) ∧ Aside0 (Below w.heap.size w wr)) (fun _ wr => s.size - wr.iterPos w.heap.size)
    case atStart => exact ⟨0, 0, rfl, by omega, ⟨by decide⟩, ⟨World.iter_heap w s 0⟩, ⟨by rw [List.drop_zero]⟩, ⟨(Below.refl _ _).alloc (Nat.le_refl _) _⟩⟩
    case round =>
      obtain ⟨pos, a, rfl, hpos, HA, HK, HV, HB⟩ := hrel
      by_cases hp : pos < s.size
      · obtain ⟨r, d, hd⟩ : ∃ r d, Utf8.decode s pos = (r, d) := ⟨_, _, rfl⟩
        have hnx : ∀ ty, (Instr.next (.pointer (some ⟨w.heap.size, 0, none⟩)) true ty).run Tryd.prog wr = _ := fun ty => Lib.run_next_any_at wr w.heap.size s pos ty HK.out hp
        simp only [hd] at hnx
        obtain ⟨y, hy⟩ : ∃ y, bt8 s pos = y := ⟨_, rfl⟩
        have hst := HV.out
        rw [drop_cons s pos hp, hy, numL] at hst
        have hdl : Utf8.decode s pos = dL (y :: (bs s).drop (pos + 1)) := by rw [dec_dL, drop_cons s pos hp, hy]
        rw [hd] at hdl
        have HK2 := Aside0.mk (Lib.iterAt_heap wr w.heap.size s pos (pos + d) HK.out)
        have HB2 := Aside0.mk (Lib.below_iterAt HB.out (Nat.le_refl _) s (pos + d))
        have hmeas := Aside0.mk (iter_pos HK.out)
        by_cases hdg : 48 ≤ y ∧ y ≤ 57
        · rw [dL_low y _ (by omega)] at hdl
          cases hdl
          rw [if_pos hdg] at hst
          have ha := HA.out
          have hp10 := pow10 pos (by omega)
          obtain ⟨k, hk⟩ : ∃ k, r - 48 = k := ⟨_, rfl⟩
          obtain ⟨a1, ha1⟩ : ∃ a1, 10 * a = a1 := ⟨_, rfl⟩
          obtain ⟨a2, ha2⟩ : ∃ a2, a1 + k = a2 := ⟨_, rfl⟩
          rw [hk, ha1, ha2] at hst
          have hki : (r : Int) - 48 = (k : Int) := by omega
          have ha1i : 10 * (a : Int) = (a1 : Int) := by omega
          have ha2i : (a1 : Int) + (k : Int) = (a2 : Int) := by omega
          have HA2 : Aside0 (a2 < 10 ^ (pos + 1)) := ⟨by rw [Nat.pow_succ]; omega⟩
          have hab : a1 ≤ 100000000000 := by omega
          have hab2 : a2 ≤ 200000000000 := by omega
          have hkb : k ≤ 9 := by omega
          have HST := Aside0.mk hst
          have HD : Aside0 (digitF (r : Int) = true) := ⟨by rw [digitF, inF, decide_eq_true (by omega), decide_eq_true (by omega)]; rfl⟩
          clear hst hd ha hp10 hk ha1 ha2
          go_wp2_with fail
          refine (digit_any (r : Int) _ true HD).mono ?_
          rintro e w2 ⟨rfl, rfl⟩
          go_wp2
          go_roundw
          case rel => exact ⟨pos + 1, a2, by go_num, by omega, HA2, HK2, HST, HB2⟩
          case measure => rw [iter_pos HK2.out, hmeas.out]; omega
        · rw [if_neg hdg] at hst
          have hrd : digitF (r : Int) = false := by
            by_cases hy1 : y < 128
            · rw [dL_low y _ hy1] at hdl
              cases hdl
              rw [digitF, inF, ← Bool.decide_and, decide_eq_false (by omega)]
            · have hge := decN_ge (y :: (bs s).drop (pos + 1)).length ((y :: (bs s).drop (pos + 1)).getD 0 0) ((y :: (bs s).drop (pos + 1)).getD 1 0) ((y :: (bs s).drop (pos + 1)).getD 2 0) ((y :: (bs s).drop (pos + 1)).getD 3 0) hy1
              have he : Lib.decodeN (y :: (bs s).drop (pos + 1)).length ((y :: (bs s).drop (pos + 1)).getD 0 0) ((y :: (bs s).drop (pos + 1)).getD 1 0) ((y :: (bs s).drop (pos + 1)).getD 2 0) ((y :: (bs s).drop (pos + 1)).getD 3 0) = (r, d) := hdl.symm
              rw [he] at hge
              rw [digitF, inF, ← Bool.decide_and, decide_eq_false (by simp only at hge; omega)]
          have HD := Aside0.mk hrd
          have ho := HO.out
          rw [hst] at ho
          simp only [Prod.mk.injEq] at ho
          obtain ⟨rfl, rfl⟩ := ho
          clear hst hd hdl hrd
          go_wp2_with fail
          refine (digit_any (r : Int) _ false HD).mono ?_
          rintro e w2 ⟨rfl, rfl⟩
          go_wp2
          go_ret2
          exact ⟨rfl, HB2⟩
      · have hnx : ∀ ty, (Instr.next (.pointer (some ⟨w.heap.size, 0, none⟩)) true ty).run Tryd.prog wr = _ := fun ty => Lib.run_next_end_at wr w.heap.size s pos ty HK.out hp
        have hst := HV.out
        rw [List.drop_eq_nil_of_le (by rw [bs_length]; omega), numL] at hst
        have ho := HO.out
        rw [hst] at ho
        simp only [Prod.mk.injEq] at ho
        obtain ⟨rfl, rfl⟩ := ho
        clear hst
        go_wp2
        go_ret2
        exact ⟨rfl, HB⟩)

theorem number_out (s : ByteArray) (w : World) (hs : s.size ≤ 4611686018427387904) (h : s.size < 1 ∨ 10 < s.size ∨ (1 < s.size ∧ bt8 s 0 = 48)) :
    Calls Tryd.prog 65 #[.string s] w fun e w' => e = .returned (.tuple #[.int .i64 0, .bool false]) ∧ Aside0 (Below w.heap.size w w') := by
  by_cases h1 : s.size = 0
  · have e0 := str_empty s true (decide_eq_true h1)
    go_enter Tryd.func65, Tryd.ntmps65
    go_wp2
    go_ret2
    exact ⟨rfl, ⟨Below.refl _ _⟩⟩
  · have e0 := str_empty s false (decide_eq_false h1)
    by_cases h2 : 10 < s.size
    · have e1 : decide (10 < s.size) = true := decide_eq_true h2
      have e2 : decide ((10 : Int) < (s.size : Int)) = true := decide_eq_true (by omega)
      go_enter Tryd.func65, Tryd.ntmps65
      go_wp2
      go_ret2
      exact ⟨rfl, ⟨Below.refl _ _⟩⟩
    · have h3 : 1 < s.size ∧ bt8 s 0 = 48 := by omega
      have e1 : decide (10 < s.size) = false := decide_eq_false h2
      have e2 : decide ((10 : Int) < (s.size : Int)) = false := decide_eq_false (by omega)
      have e3 : decide (1 < s.size) = true := decide_eq_true h3.1
      have e4 : decide ((1 : Int) < (s.size : Int)) = true := decide_eq_true (by omega)
      have hx0 : 0 < s.size := by omega
      have hsi0 : (s[0]'hx0).toNat = 48 := by rw [bt8_at, h3.2]
      clear h3 h
      go_enter Tryd.func65, Tryd.ntmps65
      go_wp2
      go_ret2
      exact ⟨rfl, ⟨Below.refl _ _⟩⟩
theorem number_any (s : ByteArray) (w : World) (hs : s.size ≤ 4611686018427387904) (v : Nat) (ok : Bool) (hv : Aside0 (numF s = (v, ok))) :
    Calls Tryd.prog 65 #[.string s] w fun e w' => e = .returned (.tuple #[.int .i64 (v : Int), .bool ok]) ∧ Aside0 (Below w.heap.size w w') := by
  by_cases h : s.size < 1 ∨ 10 < s.size ∨ (1 < s.size ∧ bt8 s 0 = 48)
  · have e := hv.out
    rw [numF, if_pos h] at e
    cases e
    exact number_out s w hs h
  · exact number_run s w (by omega) (by omega) (by omega) v ok hv

set_option maxRecDepth 100000 in
set_option maxHeartbeats 2000000 in
theorem rnumber_run (s : ByteArray) (w : World) (h1 : 1 ≤ s.size) (h2 : s.size ≤ 10) (h3 : ¬ (1 < s.size ∧ bt8 s 0 = 48)) (v : Nat) (ok : Bool) (hv : Aside0 (numF s = (v, ok))) :
    Calls Tryd.prog 60 #[.string s] w fun e w' => e = .returned (.tuple #[.int .i64 (v : Int), .bool ok]) ∧ w = w' := by
  have e0 : decide (s.size < 1) = false := decide_eq_false (by omega)
  have e00 : decide ((s.size : Int) < 1) = false := decide_eq_false (by omega)
  have e1 : decide (10 < s.size) = false := decide_eq_false (by omega)
  have e2 : decide ((10 : Int) < (s.size : Int)) = false := decide_eq_false (by omega)
  have hx0 : 0 < s.size := by omega
  obtain ⟨x, hx⟩ : ∃ x, bt8 s 0 = x := ⟨_, rfl⟩
  have hsi0 : (s[0]'hx0).toNat = x := by rw [bt8_at, hx]
  rw [hx] at h3
  obtain ⟨b1, hb1⟩ : ∃ b, decide (1 < s.size) = b := ⟨_, rfl⟩
  have hb1i : decide ((1 : Int) < (s.size : Int)) = b1 := by rw [← hb1]; exact decide_eq_decide.2 (by omega)
  obtain ⟨b2, hb2⟩ : ∃ b, ((x : Int) == 48) = b := ⟨_, rfl⟩
  have hbb : b1 = true → b2 = false := by
    intro h
    rw [← hb1] at h
    rw [← hb2, beq_eq_false_iff_ne]
    intro e
    exact h3 ⟨of_decide_eq_true h, by omega⟩
  have HO : Aside0 (numF s = match numL 0 (bs s) with | none => (0, false) | some v => (v, true)) := ⟨by rw [numF, if_neg (by rw [hx]; omega)]⟩
  rw [hv.out] at HO
  clear hv hx h3
  go_enter Tryd.func60, Tryd.ntmps60
  have key : ∀ K : Prop, (b1 = false → K) → (b1 = true → b2 = false → K) → K := by
    intro K k1 k2
    cases b1 with
    | false => exact k1 rfl
    | true => exact k2 rfl (hbb rfl)
  refine key _ (fun q1 => ?_) (fun q1 q2 => ?_)
  all_goals (
    clear key hbb
    try subst q2
    subst q1
    go_wp2_with fail
    go_loop [4, 5] (fun z u => ∃ (pos a : Nat), z = .int .i64 (a : Int) ∧ u = .int .i64 (pos : Int) ∧ pos ≤ s.size ∧ Aside0 (a < 10 ^ pos) ∧ Aside0 (numL 0 (bs s) = numL a ((bs s).drop pos))) (fun _ u => s.size - (intOf u).toNat)
    case atStart => exact ⟨0, 0, rfl, rfl, by omega, ⟨by decide⟩, ⟨by rw [List.drop_zero]⟩⟩
    case round =>
      obtain ⟨pos, a, rfl, rfl, hpos, HA, HV⟩ := hrel
      by_cases hp : pos < s.size
      · obtain ⟨y, hy⟩ : ∃ y, bt8 s pos = y := ⟨_, rfl⟩
        have hsi : (s[pos]'hp).toNat = y := by rw [bt8_at, hy]
        have hyl : y < 256 := by rw [← hy]; exact bt8_lt s pos
        have hst := HV.out
        rw [drop_cons s pos hp, hy, numL] at hst
        by_cases hdg : 48 ≤ y ∧ y ≤ 57
        · rw [if_pos hdg] at hst
          have ha := HA.out
          have hp10 := pow10 pos (by omega)
          obtain ⟨k, hk⟩ : ∃ k, y - 48 = k := ⟨_, rfl⟩
          obtain ⟨a1, ha1⟩ : ∃ a1, 10 * a = a1 := ⟨_, rfl⟩
          obtain ⟨a2, ha2⟩ : ∃ a2, a1 + k = a2 := ⟨_, rfl⟩
          rw [hk, ha1, ha2] at hst
          have hki : (y : Int) - 48 = (k : Int) := by omega
          have ha1i : 10 * (a : Int) = (a1 : Int) := by omega
          have ha2i : (a1 : Int) + (k : Int) = (a2 : Int) := by omega
          have HA2 : Aside0 (a2 < 10 ^ (pos + 1)) := ⟨by rw [Nat.pow_succ]; omega⟩
          have hab : a1 ≤ 100000000000 := by omega
          have hab2 : a2 ≤ 200000000000 := by omega
          have hkb : k ≤ 9 := by omega
          have HST := Aside0.mk hst
          have hc1 : decide ((y : Int) < 48) = false := decide_eq_false (by omega)
          have hc2 : decide ((57 : Int) < (y : Int)) = false := decide_eq_false (by omega)
          have hc3 : decide (y < 48) = false := decide_eq_false (by omega)
          have hc4 : decide (57 < y) = false := decide_eq_false (by omega)
          clear hst ha hp10 hk ha1 ha2 hy
          go_wp2
          go_round
          case rel => exact ⟨pos + 1, a2, by go_num, by go_num, by omega, HA2, HST⟩
          case measure => simp [intOf]; omega
        · rw [if_neg hdg] at hst
          have ho := HO.out
          rw [hst] at ho
          simp only [Prod.mk.injEq] at ho
          obtain ⟨rfl, rfl⟩ := ho
          clear hst hy
          by_cases hc : y < 48
          · have hc1 : decide ((y : Int) < 48) = true := decide_eq_true (by omega)
            have hc3 : decide (y < 48) = true := decide_eq_true (by omega)
            go_wp2
            go_ret2
            exact ⟨rfl, rfl⟩
          · have hc1 : decide ((y : Int) < 48) = false := decide_eq_false (by omega)
            have hc2 : decide ((57 : Int) < (y : Int)) = true := decide_eq_true (by omega)
            have hc3 : decide (y < 48) = false := decide_eq_false (by omega)
            have hc4 : decide (57 < y) = true := decide_eq_true (by omega)
            go_wp2
            go_ret2
            exact ⟨rfl, rfl⟩
      · have hst := HV.out
        rw [List.drop_eq_nil_of_le (by rw [bs_length]; omega), numL] at hst
        have ho := HO.out
        rw [hst] at ho
        simp only [Prod.mk.injEq] at ho
        obtain ⟨rfl, rfl⟩ := ho
        clear hst
        go_wp2
        go_ret2
        exact ⟨rfl, rfl⟩)
theorem rnumber_out (s : ByteArray) (w : World) (hs : s.size ≤ 4611686018427387904) (h : s.size < 1 ∨ 10 < s.size ∨ (1 < s.size ∧ bt8 s 0 = 48)) :
    Calls Tryd.prog 60 #[.string s] w fun e w' => e = .returned (.tuple #[.int .i64 0, .bool false]) ∧ w = w' := by
  by_cases h1 : s.size = 0
  · have e0 : decide (s.size < 1) = true := decide_eq_true (by omega)
    have e00 : decide ((s.size : Int) < 1) = true := decide_eq_true (by omega)
    go_enter Tryd.func60, Tryd.ntmps60
    go_wp2
    go_ret2
    exact ⟨rfl, rfl⟩
  · have e0 : decide (s.size < 1) = false := decide_eq_false (by omega)
    have e00 : decide ((s.size : Int) < 1) = false := decide_eq_false (by omega)
    by_cases h2 : 10 < s.size
    · have e1 : decide (10 < s.size) = true := decide_eq_true h2
      have e2 : decide ((10 : Int) < (s.size : Int)) = true := decide_eq_true (by omega)
      go_enter Tryd.func60, Tryd.ntmps60
      go_wp2
      go_ret2
      exact ⟨rfl, rfl⟩
    · have h3 : 1 < s.size ∧ bt8 s 0 = 48 := by omega
      have e1 : decide (10 < s.size) = false := decide_eq_false h2
      have e2 : decide ((10 : Int) < (s.size : Int)) = false := decide_eq_false (by omega)
      have e3 : decide (1 < s.size) = true := decide_eq_true h3.1
      have e4 : decide ((1 : Int) < (s.size : Int)) = true := decide_eq_true (by omega)
      have hx0 : 0 < s.size := by omega
      have hsi0 : (s[0]'hx0).toNat = 48 := by rw [bt8_at, h3.2]
      clear h3 h
      go_enter Tryd.func60, Tryd.ntmps60
      go_wp2
      go_ret2
      exact ⟨rfl, rfl⟩
theorem rnumber_any (s : ByteArray) (w : World) (hs : s.size ≤ 4611686018427387904) (v : Nat) (ok : Bool) (hv : Aside0 (numF s = (v, ok))) :
    Calls Tryd.prog 60 #[.string s] w fun e w' => e = .returned (.tuple #[.int .i64 (v : Int), .bool ok]) ∧ w = w' := by
  by_cases h : s.size < 1 ∨ 10 < s.size ∨ (1 < s.size ∧ bt8 s 0 = 48)
  · have e := hv.out
    rw [numF, if_pos h] at e
    cases e
    exact rnumber_out s w hs h
  · exact rnumber_run s w (by omega) (by omega) (by omega) v ok hv
end Go.Proofs.YtbfhglaaombglaaDoor

/- Plain laws: a schema's text as a list of pieces, and the reading of it. -/
namespace Go.Proofs.YtbfhglaaombglaaDoor
set_option linter.unusedVariables false
set_option linter.unusedSimpArgs false
open Go.RowKit Go.Proofs.YtbfhglaaombglaaDoorW.PrintWords

/-- A piece: its kind, its text, its place. -/
structure Tk where mk ::
  (kind : Nat) (text : ByteArray) (at_ : Nat)
/-- A reading: the pieces that are left; whether one did not fit. -/
abbrev St := List Tk × Bool
def teq (a b : ByteArray) : Bool := decide (bs a = bs b)
def E0 : ByteArray := ByteArray.empty
/-- The next piece. -/
def nxt (st : St) : Option Tk := if st.2 then none else st.1.head?
def takesB (t : ByteArray) (st : St) : Bool := match nxt st with | some k => teq k.text t | none => false
def takesM (t : ByteArray) (st : St) : St := if takesB t st then (st.1.tail, st.2) else st
def need (t : ByteArray) (st : St) : St := if takesB t st then (st.1.tail, st.2) else (st.1, true)
def nameOk (st : St) : Bool := match nxt st with | some k => k.kind == 1 && nameG k.text | none => false
def hdText (st : St) : ByteArray := match st.1 with | k :: _ => k.text | [] => E0
def nameV (st : St) : ByteArray := if nameOk st then hdText st else E0
def nameM (st : St) : St := if nameOk st then (st.1.tail, st.2) else (st.1, true)
def numOk (st : St) : Bool := match nxt st with | some k => k.kind == 2 && (numF k.text).2 | none => false
def numV (st : St) : Nat := if numOk st then (numF (hdText st)).1 else 0
def numM (st : St) : St := if numOk st then (st.1.tail, st.2) else (st.1, true)

/-- Words. -/
def w_schema : ByteArray := ⟨#[115, 99, 104, 101, 109, 97]⟩
def w_message : ByteArray := ⟨#[109, 101, 115, 115, 97, 103, 101]⟩
def w_enum : ByteArray := ⟨#[101, 110, 117, 109]⟩
def w_call : ByteArray := ⟨#[99, 97, 108, 108]⟩
def w_returns : ByteArray := ⟨#[114, 101, 116, 117, 114, 110, 115]⟩
def w_reserved : ByteArray := ⟨#[114, 101, 115, 101, 114, 118, 101, 100]⟩
def w_optional : ByteArray := ⟨#[111, 112, 116, 105, 111, 110, 97, 108]⟩
def w_repeated : ByteArray := ⟨#[114, 101, 112, 101, 97, 116, 101, 100]⟩
def w_int32 : ByteArray := ⟨#[105, 110, 116, 51, 50]⟩
def w_int64 : ByteArray := ⟨#[105, 110, 116, 54, 52]⟩
def w_bool : ByteArray := ⟨#[98, 111, 111, 108]⟩
def w_text : ByteArray := ⟨#[116, 101, 120, 116]⟩
def w_bytes : ByteArray := ⟨#[98, 121, 116, 101, 115]⟩
def c_open : ByteArray := ⟨#[123]⟩
def c_close : ByteArray := ⟨#[125]⟩
def c_po : ByteArray := ⟨#[40]⟩
def c_pc : ByteArray := ⟨#[41]⟩
def c_semi : ByteArray := ⟨#[59]⟩
def c_eq : ByteArray := ⟨#[61]⟩
def c_comma : ByteArray := ⟨#[44]⟩

/-- A field: its type's kind 0 where it is a name. -/
structure Fd where mk ::
  (name : ByteArray) (tag label kind : Nat) (tname : ByteArray)
structure Mg where mk ::
  (name : ByteArray) (fields : List Fd) (res : List Nat)
structure En where mk ::
  (name : ByteArray) (vals : List (ByteArray × Nat))
structure Mt where mk ::
  (name inn out : ByteArray)
structure Sc where mk ::
  (name : ByteArray) (msgs : List Mg) (enums : List En) (meths : List Mt)
def Sc.nil : Sc := ⟨E0, [], [], []⟩

/-- A scalar type's number; 0: it is none. -/
def scal (st : St) : Nat :=
  if takesB w_int32 st then 1 else if takesB w_int64 st then 2 else if takesB w_bool st then 3 else if takesB w_text st then 4 else if takesB w_bytes st then 5 else 0
def kindN (st : St) : ByteArray := if scal st = 0 then nameV st else E0
def kindM (st : St) : St := if scal st = 0 then nameM st else (st.1.tail, st.2)
def labV (st : St) : Nat := if takesB w_optional st then 2 else if takesB w_repeated st then 3 else 1
def labM (st : St) : St := if takesB w_optional st || takesB w_repeated st then (st.1.tail, st.2) else st
/-- A field. -/
def fieldV (st : St) : Fd :=
  let s1 := labM st
  let s2 := kindM s1
  let s3 := need c_eq (nameM s2)
  ⟨nameV s2, numV s3, labV st, scal s1, kindN s1⟩
def fieldM (st : St) : St := need c_semi (numM (need c_eq (nameM (kindM (labM st)))))
/-- Behind 'reserved' and its first number. -/
def resL : Nat → List Nat → St → List Nat × St
  | 0, l, st => (l, st)
  | k + 1, l, st => if takesB c_comma st then resL k (l ++ [numV (takesM c_comma st)]) (numM (takesM c_comma st)) else (l, st)
/-- How much is left to be done. -/
def mu (st : St) : Nat := if st.2 then 0 else st.1.length + 1
def resA (l : List Nat) (st : St) : List Nat × St := resL (mu st) l st
/-- A message's members. -/
def msgL : Nat → List Fd → List Nat → St → List Fd × List Nat × St
  | 0, f, r, st => (f, r, st)
  | k + 1, f, r, st =>
    if st.2 then (f, r, st)
    else if takesB c_close st then (f, r, takesM c_close st)
    else if takesB w_reserved st then
      let s1 := takesM w_reserved st
      let q := resA (r ++ [numV s1]) (numM s1)
      msgL k f q.1 (need c_semi q.2)
    else msgL k (f ++ [fieldV st]) r (fieldM st)
def msgA (f : List Fd) (r : List Nat) (st : St) : List Fd × List Nat × St := msgL (mu st) f r st
def messV (st : St) : Mg := let q := msgA [] [] (need c_open (nameM st)); ⟨nameV st, q.1, q.2.1⟩
def messM (st : St) : St := (msgA [] [] (need c_open (nameM st))).2.2
/-- An enumeration's values. -/
def valV (st : St) : ByteArray × Nat := (nameV st, numV (need c_eq (nameM st)))
def valM (st : St) : St := need c_semi (numM (need c_eq (nameM st)))
def enumL : Nat → List (ByteArray × Nat) → St → List (ByteArray × Nat) × St
  | 0, l, st => (l, st)
  | k + 1, l, st =>
    if st.2 then (l, st)
    else if takesB c_close st then (l, takesM c_close st)
    else enumL k (l ++ [valV st]) (valM st)
def enumA (l : List (ByteArray × Nat)) (st : St) : List (ByteArray × Nat) × St := enumL (mu st) l st
def enumV (st : St) : En := ⟨nameV st, (enumA [] (need c_open (nameM st))).1⟩
def enumM (st : St) : St := (enumA [] (need c_open (nameM st))).2
def callV (st : St) : Mt :=
  let s1 := need c_po (nameM st)
  let s2 := need c_po (need w_returns (need c_pc (nameM s1)))
  ⟨nameV st, nameV s1, nameV s2⟩
def callM (st : St) : St :=
  let s1 := need c_po (nameM st)
  let s2 := need c_po (need w_returns (need c_pc (nameM s1)))
  need c_semi (need c_pc (nameM s2))
/-- The declarations. -/
def declL : Nat → Sc → St → Sc × St
  | 0, x, st => (x, st)
  | k + 1, x, st =>
    if st.2 then (x, st)
    else if st.1.isEmpty then (x, st)
    else if takesB w_message st then let s := takesM w_message st; declL k { x with msgs := x.msgs ++ [messV s] } (messM s)
    else if takesB w_enum st then let s := takesM w_enum st; declL k { x with enums := x.enums ++ [enumV s] } (enumM s)
    else if takesB w_call st then let s := takesM w_call st; declL k { x with meths := x.meths ++ [callV s] } (callM s)
    else (x, (st.1, true))
def declA (x : Sc) (st : St) : Sc × St := declL (mu st) x st
def schemaS (st : St) : Sc × St := declA ⟨nameV (need w_schema st), [], [], []⟩ (need c_semi (nameM (need w_schema st)))

/-- A type's number in the program: a name is 7. -/
def kk7 (k : Nat) : Nat := if k = 0 then 7 else k
/-- What a type that is a name is. -/
def resK (es : List En) (f : Fd) : Fd := if kk7 f.kind = 7 then { f with kind := if es.any (fun e => teq e.name f.tname) then 6 else 7 } else f
def resolveS (x : Sc) : Sc := { x with msgs := x.msgs.map fun m => { m with fields := m.fields.map (resK x.enums) } }
/-- The pieces of a text. -/
def tkOf (s : ByteArray) (t : Nat × Nat × Nat) : Tk := ⟨t.1, s.extract t.2.1 (t.2.1 + t.2.2), t.2.1⟩
/-- What pieces are: a schema, or none and where. -/
def parseT (l : List Tk) (n : Nat) : Sc × Nat × Nat :=
  let q := schemaS (l, false)
  if q.2.2 then (Sc.nil, (match q.2.1 with | k :: _ => k.at_ | [] => n), 5) else (resolveS q.1, 0, 0)
def parseF (s : ByteArray) : Sc × Nat × Nat :=
  if 16384 < s.size then (Sc.nil, 0, 4)
  else match toksA 0 (bs s) with
    | (_, some (a, e)) => (Sc.nil, a, e)
    | (L, none) => parseT (L.map (tkOf s)) s.size

/-! Nothing makes more of what is left. -/
theorem mu_done (l : List Tk) : mu (l, true) = 0 := rfl
theorem mu_tail (st : St) (h : st.2 = false) (hn : st.1 ≠ []) : mu (st.1.tail, st.2) < mu st := by
  obtain ⟨l, b⟩ := st
  simp only at h hn ⊢
  subst h
  cases l with
  | nil => exact absurd rfl hn
  | cons k l => simp [mu]
theorem nxt_some {st : St} {k : Tk} (h : nxt st = some k) : st.2 = false ∧ ∃ l, st.1 = k :: l := by
  obtain ⟨l, b⟩ := st
  unfold nxt at h
  cases b with
  | true => cases h
  | false =>
    cases l with
    | nil => cases h
    | cons a l => cases h; exact ⟨rfl, l, rfl⟩
theorem takes_some {t : ByteArray} {st : St} (h : takesB t st = true) : st.2 = false ∧ st.1 ≠ [] := by
  unfold takesB at h
  cases hn : nxt st with
  | none => rw [hn] at h; cases h
  | some k => obtain ⟨h1, l, h2⟩ := nxt_some hn; exact ⟨h1, by rw [h2]; exact List.cons_ne_nil _ _⟩
theorem name_some {st : St} (h : nameOk st = true) : st.2 = false ∧ st.1 ≠ [] := by
  unfold nameOk at h
  cases hn : nxt st with
  | none => rw [hn] at h; cases h
  | some k => obtain ⟨h1, l, h2⟩ := nxt_some hn; exact ⟨h1, by rw [h2]; exact List.cons_ne_nil _ _⟩
theorem num_some {st : St} (h : numOk st = true) : st.2 = false ∧ st.1 ≠ [] := by
  unfold numOk at h
  cases hn : nxt st with
  | none => rw [hn] at h; cases h
  | some k => obtain ⟨h1, l, h2⟩ := nxt_some hn; exact ⟨h1, by rw [h2]; exact List.cons_ne_nil _ _⟩
theorem mu_takes {t : ByteArray} {st : St} (h : takesB t st = true) : mu (takesM t st) < mu st := by
  obtain ⟨h1, h2⟩ := takes_some h
  rw [takesM, if_pos h]
  exact mu_tail st h1 h2
theorem mu_need (t : ByteArray) (st : St) : mu (need t st) ≤ mu st - 1 := by
  unfold need
  split
  next h => obtain ⟨h1, h2⟩ := takes_some h; have := mu_tail st h1 h2; omega
  next h => rw [mu_done]; exact Nat.zero_le _
theorem mu_name (st : St) : mu (nameM st) ≤ mu st - 1 := by
  unfold nameM
  split
  next h => obtain ⟨h1, h2⟩ := name_some h; have := mu_tail st h1 h2; omega
  next h => rw [mu_done]; exact Nat.zero_le _
theorem mu_num (st : St) : mu (numM st) ≤ mu st - 1 := by
  unfold numM
  split
  next h => obtain ⟨h1, h2⟩ := num_some h; have := mu_tail st h1 h2; omega
  next h => rw [mu_done]; exact Nat.zero_le _
theorem scal_some {st : St} (h : scal st ≠ 0) : st.2 = false ∧ st.1 ≠ [] := by
  unfold scal at h
  split at h
  next h1 => exact takes_some h1
  split at h
  next h1 => exact takes_some h1
  split at h
  next h1 => exact takes_some h1
  split at h
  next h1 => exact takes_some h1
  split at h
  next h1 => exact takes_some h1
  exact absurd rfl h
theorem mu_kind (st : St) : mu (kindM st) ≤ mu st - 1 := by
  unfold kindM
  split
  next h => exact mu_name st
  next h => obtain ⟨h1, h2⟩ := scal_some h; have := mu_tail st h1 h2; omega
theorem mu_lab (st : St) : mu (labM st) ≤ mu st := by
  unfold labM
  split
  next h =>
    rw [Bool.or_eq_true] at h
    obtain ⟨h1, h2⟩ := h.elim takes_some takes_some
    have := mu_tail st h1 h2; omega
  next h => exact Nat.le_refl _
theorem mu_field (st : St) : mu (fieldM st) ≤ mu st - 1 := by
  unfold fieldM
  have a1 := mu_lab st
  have a2 := mu_kind (labM st)
  have a3 := mu_name (kindM (labM st))
  have a4 := mu_need c_eq (nameM (kindM (labM st)))
  have a5 := mu_num (need c_eq (nameM (kindM (labM st))))
  have a6 := mu_need c_semi (numM (need c_eq (nameM (kindM (labM st)))))
  omega
theorem mu_val (st : St) : mu (valM st) ≤ mu st - 1 := by
  unfold valM
  have a3 := mu_name st
  have a4 := mu_need c_eq (nameM st)
  have a5 := mu_num (need c_eq (nameM st))
  have a6 := mu_need c_semi (numM (need c_eq (nameM st)))
  omega
theorem mu_pos {st : St} (h : st.2 = false) : 1 ≤ mu st := by unfold mu; rw [h]; simp
theorem resL_more : ∀ k l st, mu st ≤ k → resL k l st = resA l st := by
  intro k
  induction k using Nat.strongRecOn with
  | _ k ih =>
    intro l st h
    by_cases ht : takesB c_comma st = true
    · have h1 := mu_pos (takes_some ht).1
      obtain ⟨k, rfl⟩ : ∃ j, k = j + 1 := ⟨k - 1, by omega⟩
      obtain ⟨m, hm⟩ : ∃ m, mu st = m + 1 := ⟨mu st - 1, by omega⟩
      have h2 := mu_takes ht
      have h3 := mu_num (takesM c_comma st)
      rw [resA, hm, resL, resL, if_pos ht, if_pos ht, ih k (by omega) _ _ (by omega)]
      by_cases hk : m < k + 1
      · rw [ih m hk _ _ (by omega)]
      · omega
    · have e : ∀ j, resL j l st = (l, st) := fun j => by cases j with
        | zero => rfl
        | succ j => rw [resL, if_neg ht]
      rw [resA, e, e]
theorem resA_step (l : List Nat) (st : St) : resA l st = if takesB c_comma st then resA (l ++ [numV (takesM c_comma st)]) (numM (takesM c_comma st)) else (l, st) := by
  by_cases ht : takesB c_comma st = true
  · have h1 := mu_pos (takes_some ht).1
    obtain ⟨m, hm⟩ : ∃ m, mu st = m + 1 := ⟨mu st - 1, by omega⟩
    have h2 := mu_takes ht
    have h3 := mu_num (takesM c_comma st)
    rw [resA, hm, resL, if_pos ht, if_pos ht, resL_more m _ _ (by omega)]
  · rw [if_neg ht, resA]
    cases mu st with
    | zero => rfl
    | succ j => rw [resL, if_neg ht]
theorem mu_res : ∀ k l st, mu st ≤ k → mu (resA l st).2 ≤ mu st := by
  intro k
  induction k with
  | zero => intro l st h; rw [resA_step, if_neg (fun ht => by have := mu_pos (takes_some ht).1; omega)]; exact Nat.le_refl _
  | succ k ih =>
    intro l st h
    rw [resA_step]
    by_cases ht : takesB c_comma st = true
    · have h2 := mu_takes ht
      have h3 := mu_num (takesM c_comma st)
      rw [if_pos ht]
      have := ih (l ++ [numV (takesM c_comma st)]) (numM (takesM c_comma st)) (by omega)
      omega
    · rw [if_neg ht]; exact Nat.le_refl _
/-- One round of a message's loop. -/
theorem mu_msg_res {st : St} (r : List Nat) (h : takesB w_reserved st = true) : mu (need c_semi (resA (r ++ [numV (takesM w_reserved st)]) (numM (takesM w_reserved st))).2) < mu st := by
  have a1 := mu_takes h
  have a2 := mu_num (takesM w_reserved st)
  have a3 := mu_res _ (r ++ [numV (takesM w_reserved st)]) (numM (takesM w_reserved st)) (Nat.le_refl _)
  have a4 := mu_need c_semi (resA (r ++ [numV (takesM w_reserved st)]) (numM (takesM w_reserved st))).2
  omega
theorem mu_msg_field {st : St} (h : st.2 = false) : mu (fieldM st) < mu st := by
  have := mu_field st
  have := mu_pos h
  omega
theorem msgL_more : ∀ k f r st, mu st ≤ k → msgL k f r st = msgA f r st := by
  intro k
  induction k using Nat.strongRecOn with
  | _ k ih =>
    intro f r st h
    by_cases h0 : st.2 = true
    · have e : ∀ j, msgL j f r st = (f, r, st) := fun j => by cases j with
        | zero => rfl
        | succ j => rw [msgL, if_pos h0]
      rw [msgA, e, e]
    · have h0' : st.2 = false := by simpa using h0
      have h1 := mu_pos h0'
      obtain ⟨k, rfl⟩ : ∃ j, k = j + 1 := ⟨k - 1, by omega⟩
      obtain ⟨m, hm⟩ : ∃ m, mu st = m + 1 := ⟨mu st - 1, by omega⟩
      rw [msgA, hm, msgL, msgL]
      by_cases hc : takesB c_close st = true
      · rw [if_neg h0, if_neg h0, if_pos hc, if_pos hc]
      · rw [if_neg h0, if_neg h0, if_neg hc, if_neg hc]
        by_cases hr : takesB w_reserved st = true
        · have h2 := mu_msg_res r hr
          rw [if_pos hr, if_pos hr]
          simp only
          rw [ih k (by omega) _ _ _ (by omega)]
          by_cases hk : m < k + 1
          · rw [ih m hk _ _ _ (by omega)]
          · omega
        · have h2 := mu_msg_field h0'
          rw [if_neg hr, if_neg hr, ih k (by omega) _ _ _ (by omega)]
          by_cases hk : m < k + 1
          · rw [ih m hk _ _ _ (by omega)]
          · omega
theorem msgA_done (f : List Fd) (r : List Nat) (st : St) (h : st.2 = true) : msgA f r st = (f, r, st) := by
  unfold msgA
  cases mu st with
  | zero => rfl
  | succ j => rw [msgL, if_pos h]
theorem msgA_close (f : List Fd) (r : List Nat) (st : St) (h : takesB c_close st = true) : msgA f r st = (f, r, takesM c_close st) := by
  have h0 := (takes_some h).1
  have h1 := mu_pos h0
  obtain ⟨m, hm⟩ : ∃ m, mu st = m + 1 := ⟨mu st - 1, by omega⟩
  rw [msgA, hm, msgL, if_neg (by rw [h0]; decide), if_pos h]
theorem msgA_res (f : List Fd) (r : List Nat) (st : St) (hc : takesB c_close st = false) (h : takesB w_reserved st = true) :
    msgA f r st = msgA f (resA (r ++ [numV (takesM w_reserved st)]) (numM (takesM w_reserved st))).1 (need c_semi (resA (r ++ [numV (takesM w_reserved st)]) (numM (takesM w_reserved st))).2) := by
  have h0 := (takes_some h).1
  have h1 := mu_pos h0
  have h2 := mu_msg_res r h
  obtain ⟨m, hm⟩ : ∃ m, mu st = m + 1 := ⟨mu st - 1, by omega⟩
  rw [msgA, hm, msgL, if_neg (by rw [h0]; decide), if_neg (by rw [hc]; decide), if_pos h]
  exact msgL_more m _ _ _ (by omega)
theorem msgA_field (f : List Fd) (r : List Nat) (st : St) (h0 : st.2 = false) (hc : takesB c_close st = false) (hr : takesB w_reserved st = false) :
    msgA f r st = msgA (f ++ [fieldV st]) r (fieldM st) := by
  have h1 := mu_pos h0
  have h2 := mu_msg_field h0
  obtain ⟨m, hm⟩ : ∃ m, mu st = m + 1 := ⟨mu st - 1, by omega⟩
  rw [msgA, hm, msgL, if_neg (by rw [h0]; decide), if_neg (by rw [hc]; decide), if_neg (by rw [hr]; decide)]
  exact msgL_more m _ _ _ (by omega)
theorem mu_msg : ∀ k f r st, mu st ≤ k → mu (msgA f r st).2.2 ≤ mu st := by
  intro k
  induction k with
  | zero => intro f r st h; rw [msgA_done f r st (by cases hb : st.2 with | true => rfl | false => have := mu_pos hb; omega)]; exact Nat.le_refl _
  | succ k ih =>
    intro f r st h
    by_cases h0 : st.2 = true
    · rw [msgA_done f r st h0]; exact Nat.le_refl _
    · have h0' : st.2 = false := by simpa using h0
      by_cases hc : takesB c_close st = true
      · rw [msgA_close f r st hc]
        exact Nat.le_of_lt (mu_takes hc)
      · by_cases hr : takesB w_reserved st = true
        · rw [msgA_res f r st (by simpa using hc) hr]
          have h2 := mu_msg_res r hr
          have := ih f (resA (r ++ [numV (takesM w_reserved st)]) (numM (takesM w_reserved st))).1 _ (by omega : mu (need c_semi (resA (r ++ [numV (takesM w_reserved st)]) (numM (takesM w_reserved st))).2) ≤ k)
          omega
        · rw [msgA_field f r st h0' (by simpa using hc) (by simpa using hr)]
          have h2 := mu_msg_field h0'
          have := ih (f ++ [fieldV st]) r (fieldM st) (by omega)
          omega
theorem mu_mess (st : St) : mu (messM st) ≤ mu st := by
  have a1 := mu_name st
  have a2 := mu_need c_open (nameM st)
  have a3 := mu_msg _ [] [] (need c_open (nameM st)) (Nat.le_refl _)
  unfold messM
  omega
theorem enumL_more : ∀ k l st, mu st ≤ k → enumL k l st = enumA l st := by
  intro k
  induction k using Nat.strongRecOn with
  | _ k ih =>
    intro l st h
    by_cases h0 : st.2 = true
    · have e : ∀ j, enumL j l st = (l, st) := fun j => by cases j with
        | zero => rfl
        | succ j => rw [enumL, if_pos h0]
      rw [enumA, e, e]
    · have h0' : st.2 = false := by simpa using h0
      have h1 := mu_pos h0'
      have h2 := mu_val st
      obtain ⟨k, rfl⟩ : ∃ j, k = j + 1 := ⟨k - 1, by omega⟩
      obtain ⟨m, hm⟩ : ∃ m, mu st = m + 1 := ⟨mu st - 1, by omega⟩
      rw [enumA, hm, enumL, enumL]
      by_cases hc : takesB c_close st = true
      · rw [if_neg h0, if_neg h0, if_pos hc, if_pos hc]
      · rw [if_neg h0, if_neg h0, if_neg hc, if_neg hc, ih k (by omega) _ _ (by omega)]
        by_cases hk : m < k + 1
        · rw [ih m hk _ _ (by omega)]
        · omega
theorem enumA_done (l : List (ByteArray × Nat)) (st : St) (h : st.2 = true) : enumA l st = (l, st) := by
  unfold enumA
  cases mu st with
  | zero => rfl
  | succ j => rw [enumL, if_pos h]
theorem enumA_close (l : List (ByteArray × Nat)) (st : St) (h : takesB c_close st = true) : enumA l st = (l, takesM c_close st) := by
  have h0 := (takes_some h).1
  have h1 := mu_pos h0
  obtain ⟨m, hm⟩ : ∃ m, mu st = m + 1 := ⟨mu st - 1, by omega⟩
  rw [enumA, hm, enumL, if_neg (by rw [h0]; decide), if_pos h]
theorem enumA_val (l : List (ByteArray × Nat)) (st : St) (h0 : st.2 = false) (hc : takesB c_close st = false) : enumA l st = enumA (l ++ [valV st]) (valM st) := by
  have h1 := mu_pos h0
  have h2 := mu_val st
  obtain ⟨m, hm⟩ : ∃ m, mu st = m + 1 := ⟨mu st - 1, by omega⟩
  rw [enumA, hm, enumL, if_neg (by rw [h0]; decide), if_neg (by rw [hc]; decide)]
  exact enumL_more m _ _ (by omega)
theorem mu_enumA : ∀ k l st, mu st ≤ k → mu (enumA l st).2 ≤ mu st := by
  intro k
  induction k with
  | zero => intro l st h; rw [enumA_done l st (by cases hb : st.2 with | true => rfl | false => have := mu_pos hb; omega)]; exact Nat.le_refl _
  | succ k ih =>
    intro l st h
    by_cases h0 : st.2 = true
    · rw [enumA_done l st h0]; exact Nat.le_refl _
    · have h0' : st.2 = false := by simpa using h0
      by_cases hc : takesB c_close st = true
      · rw [enumA_close l st hc]
        exact Nat.le_of_lt (mu_takes hc)
      · rw [enumA_val l st h0' (by simpa using hc)]
        have h2 := mu_val st
        have h1 := mu_pos h0'
        have := ih (l ++ [valV st]) (valM st) (by omega)
        omega
theorem mu_enum (st : St) : mu (enumM st) ≤ mu st := by
  have a1 := mu_name st
  have a2 := mu_need c_open (nameM st)
  have a3 := mu_enumA _ [] (need c_open (nameM st)) (Nat.le_refl _)
  unfold enumM
  omega
theorem mu_call (st : St) : mu (callM st) ≤ mu st := by
  unfold callM
  simp only
  have a1 := mu_name st
  have a2 := mu_need c_po (nameM st)
  have a3 := mu_name (need c_po (nameM st))
  have a4 := mu_need c_pc (nameM (need c_po (nameM st)))
  have a5 := mu_need w_returns (need c_pc (nameM (need c_po (nameM st))))
  have a6 := mu_need c_po (need w_returns (need c_pc (nameM (need c_po (nameM st)))))
  have a7 := mu_name (need c_po (need w_returns (need c_pc (nameM (need c_po (nameM st))))))
  have a8 := mu_need c_pc (nameM (need c_po (need w_returns (need c_pc (nameM (need c_po (nameM st)))))))
  have a9 := mu_need c_semi (need c_pc (nameM (need c_po (need w_returns (need c_pc (nameM (need c_po (nameM st))))))))
  omega
theorem declL_more : ∀ k x st, mu st ≤ k → declL k x st = declA x st := by
  intro k
  induction k using Nat.strongRecOn with
  | _ k ih =>
    intro x st h
    by_cases h0 : st.2 = true
    · have e : ∀ j, declL j x st = (x, st) := fun j => by cases j with
        | zero => rfl
        | succ j => rw [declL, if_pos h0]
      rw [declA, e, e]
    · have h0' : st.2 = false := by simpa using h0
      have h1 := mu_pos h0'
      obtain ⟨k, rfl⟩ : ∃ j, k = j + 1 := ⟨k - 1, by omega⟩
      obtain ⟨m, hm⟩ : ∃ m, mu st = m + 1 := ⟨mu st - 1, by omega⟩
      rw [declA, hm, declL, declL, if_neg h0, if_neg h0]
      by_cases hi : st.1.isEmpty = true
      · rw [if_pos hi, if_pos hi]
      · rw [if_neg hi, if_neg hi]
        by_cases hc : takesB w_message st = true
        · have a1 := mu_takes hc
          have a2 := mu_mess (takesM w_message st)
          rw [if_pos hc, if_pos hc]
          simp only
          rw [ih k (by omega) _ _ (by omega)]
          by_cases hk : m < k + 1
          · rw [ih m hk _ _ (by omega)]
          · omega
        · rw [if_neg hc, if_neg hc]
          by_cases hc : takesB w_enum st = true
          · have a1 := mu_takes hc
            have a2 := mu_enum (takesM w_enum st)
            rw [if_pos hc, if_pos hc]
            simp only
            rw [ih k (by omega) _ _ (by omega)]
            by_cases hk : m < k + 1
            · rw [ih m hk _ _ (by omega)]
            · omega
          · rw [if_neg hc, if_neg hc]
            by_cases hc : takesB w_call st = true
            · have a1 := mu_takes hc
              have a2 := mu_call (takesM w_call st)
              rw [if_pos hc, if_pos hc]
              simp only
              rw [ih k (by omega) _ _ (by omega)]
              by_cases hk : m < k + 1
              · rw [ih m hk _ _ (by omega)]
              · omega
            · rw [if_neg hc, if_neg hc]
theorem declA_done (x : Sc) (st : St) (h : st.2 = true ∨ st.1 = []) : declA x st = (x, st) := by
  unfold declA
  cases mu st with
  | zero => rfl
  | succ j =>
    rw [declL]
    by_cases h0 : st.2 = true
    · rw [if_pos h0]
    · rw [if_neg h0, if_pos]
      rcases h with h | h
      · exact absurd h h0
      · rw [h]; rfl
section
variable (x : Sc) (st : St) (h0 : st.2 = false)
include h0
theorem declA_message (h : takesB w_message st = true) : declA x st = declA { x with msgs := x.msgs ++ [messV (takesM w_message st)] } (messM (takesM w_message st)) := by
  have h1 := mu_pos h0
  have a1 := mu_takes h
  have a2 := mu_mess (takesM w_message st)
  have hn := (takes_some h).2
  obtain ⟨m, hm⟩ : ∃ m, mu st = m + 1 := ⟨mu st - 1, by omega⟩
  rw [declA, hm, declL, if_neg (by rw [h0]; decide), if_neg (by rw [List.isEmpty_iff]; exact hn), if_pos h]
  exact declL_more m _ _ (by omega)
theorem declA_enum (h9 : takesB w_message st = false) (h : takesB w_enum st = true) : declA x st = declA { x with enums := x.enums ++ [enumV (takesM w_enum st)] } (enumM (takesM w_enum st)) := by
  have h1 := mu_pos h0
  have a1 := mu_takes h
  have a2 := mu_enum (takesM w_enum st)
  have hn := (takes_some h).2
  obtain ⟨m, hm⟩ : ∃ m, mu st = m + 1 := ⟨mu st - 1, by omega⟩
  rw [declA, hm, declL, if_neg (by rw [h0]; decide), if_neg (by rw [List.isEmpty_iff]; exact hn), if_neg (by rw [h9]; decide), if_pos h]
  exact declL_more m _ _ (by omega)
theorem declA_call (h9 : takesB w_message st = false) (h8 : takesB w_enum st = false) (h : takesB w_call st = true) : declA x st = declA { x with meths := x.meths ++ [callV (takesM w_call st)] } (callM (takesM w_call st)) := by
  have h1 := mu_pos h0
  have a1 := mu_takes h
  have a2 := mu_call (takesM w_call st)
  have hn := (takes_some h).2
  obtain ⟨m, hm⟩ : ∃ m, mu st = m + 1 := ⟨mu st - 1, by omega⟩
  rw [declA, hm, declL, if_neg (by rw [h0]; decide), if_neg (by rw [List.isEmpty_iff]; exact hn), if_neg (by rw [h9]; decide), if_neg (by rw [h8]; decide), if_pos h]
  exact declL_more m _ _ (by omega)
theorem declA_none (hn : st.1 ≠ []) (h9 : takesB w_message st = false) (h8 : takesB w_enum st = false) (h7 : takesB w_call st = false) : declA x st = (x, (st.1, true)) := by
  have h1 := mu_pos h0
  obtain ⟨m, hm⟩ : ∃ m, mu st = m + 1 := ⟨mu st - 1, by omega⟩
  rw [declA, hm, declL, if_neg (by rw [h0]; decide), if_neg (by rw [List.isEmpty_iff]; exact hn), if_neg (by rw [h9]; decide), if_neg (by rw [h8]; decide), if_neg (by rw [h7]; decide)]
end
end Go.Proofs.YtbfhglaaombglaaDoor

/- Plain laws: what is read of small pieces is small; types' numbers. -/
namespace Go.Proofs.YtbfhglaaombglaaDoor
set_option linter.unusedVariables false
set_option linter.unusedSimpArgs false
open Go.RowKit Go.Proofs.YtbfhglaaombglaaDoorW.PrintWords

def StOk (s : St) : Prop := ∀ t ∈ s.1, t.text.size ≤ 16384
theorem StOk.tail {s : St} (h : StOk s) (b : Bool) : StOk (s.1.tail, b) := fun t ht => h t (List.mem_of_mem_tail ht)
theorem StOk.same {s : St} (h : StOk s) (b : Bool) : StOk (s.1, b) := h
theorem StOk.takes {s : St} (h : StOk s) (t : ByteArray) : StOk (takesM t s) := by
  unfold takesM; split
  · exact h.tail _
  · exact h
theorem StOk.need {s : St} (h : StOk s) (t : ByteArray) : StOk (need t s) := by
  unfold Go.Proofs.YtbfhglaaombglaaDoor.need; split
  · exact h.tail _
  · exact h.same _
theorem StOk.name {s : St} (h : StOk s) : StOk (nameM s) := by
  unfold nameM; split
  · exact h.tail _
  · exact h.same _
theorem StOk.num {s : St} (h : StOk s) : StOk (numM s) := by
  unfold numM; split
  · exact h.tail _
  · exact h.same _
theorem StOk.kind {s : St} (h : StOk s) : StOk (kindM s) := by
  unfold kindM; split
  · exact h.name
  · exact h.tail _
theorem StOk.lab {s : St} (h : StOk s) : StOk (labM s) := by
  unfold labM; split
  · exact h.tail _
  · exact h
theorem StOk.field {s : St} (h : StOk s) : StOk (fieldM s) := ((h.lab.kind.name.need _).num).need _
theorem StOk.val {s : St} (h : StOk s) : StOk (valM s) := ((h.name.need _).num).need _
theorem StOk.call {s : St} (h : StOk s) : StOk (callM s) := by
  unfold callM
  exact (((((((h.name.need _).name).need _).need _).need _).name).need _).need _
theorem nameV_ok {s : St} (h : StOk s) : (nameV s).size ≤ 16384 := by
  unfold nameV; split
  · rename_i hn
    obtain ⟨_, h2⟩ := name_some hn
    obtain ⟨l, b⟩ := s
    cases l with
    | nil => exact absurd rfl h2
    | cons k l => exact h k (by simp)
  · decide
theorem scal_le (s : St) : scal s ≤ 5 := by
  unfold scal
  repeat' split
  all_goals omega
def FdOk (f : Fd) : Prop := f.kind ≤ 5 ∧ f.tname.size ≤ 16384
theorem fieldV_ok {s : St} (h : StOk s) : FdOk (fieldV s) := by
  refine ⟨scal_le _, ?_⟩
  show (kindN (labM s)).size ≤ 16384
  unfold kindN; split
  · exact nameV_ok h.lab
  · decide
theorem StOk.res : ∀ k l s, mu s ≤ k → StOk s → StOk (resA l s).2 := by
  intro k
  induction k with
  | zero => intro l s hk h; rw [resA_step, if_neg (fun ht => by have := mu_pos (takes_some ht).1; omega)]; exact h
  | succ k ih =>
    intro l s hk h
    rw [resA_step]
    by_cases ht : takesB c_comma s = true
    · have h2 := mu_takes ht
      have h3 := mu_num (takesM c_comma s)
      rw [if_pos ht]
      exact ih _ _ (by omega) (h.takes _).num
    · rw [if_neg ht]; exact h
theorem msg_ok : ∀ k f r s, mu s ≤ k → StOk s → (∀ x ∈ f, FdOk x) → StOk (msgA f r s).2.2 ∧ ∀ x ∈ (msgA f r s).1, FdOk x := by
  intro k
  induction k with
  | zero => intro f r s hk h hf; rw [msgA_done f r s (by cases hb : s.2 with | true => rfl | false => have := mu_pos hb; omega)]; exact ⟨h, hf⟩
  | succ k ih =>
    intro f r s hk h hf
    by_cases h0 : s.2 = true
    · rw [msgA_done f r s h0]; exact ⟨h, hf⟩
    · have h0' : s.2 = false := by simpa using h0
      by_cases hc : takesB c_close s = true
      · rw [msgA_close f r s hc]; exact ⟨h.takes _, hf⟩
      · by_cases hr : takesB w_reserved s = true
        · rw [msgA_res f r s (by simpa using hc) hr]
          have h2 := mu_msg_res r hr
          exact ih _ _ _ (by omega) ((StOk.res _ _ _ (Nat.le_refl _) (h.takes _).num).need _) hf
        · rw [msgA_field f r s h0' (by simpa using hc) (by simpa using hr)]
          have h2 := mu_msg_field h0'
          refine ih _ _ _ (by omega) h.field (fun x hx => ?_)
          rcases List.mem_append.1 hx with hx | hx
          · exact hf x hx
          · rw [List.mem_singleton.1 hx]; exact fieldV_ok h
theorem mess_ok {s : St} (h : StOk s) : StOk (messM s) ∧ ∀ x ∈ (messV s).fields, FdOk x := by
  have := msg_ok _ [] [] (need c_open (nameM s)) (Nat.le_refl _) (h.name.need _) (fun x hx => by cases hx)
  exact this
theorem enumA_ok : ∀ k l s, mu s ≤ k → StOk s → StOk (enumA l s).2 := by
  intro k
  induction k with
  | zero => intro l s hk h; rw [enumA_done l s (by cases hb : s.2 with | true => rfl | false => have := mu_pos hb; omega)]; exact h
  | succ k ih =>
    intro l s hk h
    by_cases h0 : s.2 = true
    · rw [enumA_done l s h0]; exact h
    · have h0' : s.2 = false := by simpa using h0
      by_cases hc : takesB c_close s = true
      · rw [enumA_close l s hc]; exact h.takes _
      · rw [enumA_val l s h0' (by simpa using hc)]
        have h2 := mu_val s
        have h1 := mu_pos h0'
        exact ih _ _ (by omega) h.val
theorem enum_ok {s : St} (h : StOk s) : StOk (enumM s) ∧ (enumV s).name.size ≤ 16384 := ⟨enumA_ok _ _ _ (Nat.le_refl _) (h.name.need _), nameV_ok h⟩
/-- What is read is small. -/
structure ScOk (x : Sc) : Prop where
  fs : ∀ m ∈ x.msgs, ∀ f ∈ m.fields, FdOk f
  es : ∀ e ∈ x.enums, e.name.size ≤ 16384
theorem decl_ok : ∀ k x s, mu s ≤ k → StOk s → ScOk x → ScOk (declA x s).1 := by
  intro k
  induction k with
  | zero => intro x s hk h hx; rw [declA_done x s (.inl (by cases hb : s.2 with | true => rfl | false => have := mu_pos hb; omega))]; exact hx
  | succ k ih =>
    intro x s hk h hx
    by_cases h0 : s.2 = true
    · rw [declA_done x s (.inl h0)]; exact hx
    · have h0' : s.2 = false := by simpa using h0
      by_cases hn : s.1 = []
      · rw [declA_done x s (.inr hn)]; exact hx
      · by_cases h1 : takesB w_message s = true
        · rw [declA_message x s h0' h1]
          have a1 := mu_takes h1
          have a2 := mu_mess (takesM w_message s)
          obtain ⟨b1, b2⟩ := mess_ok (h.takes w_message)
          refine ih _ _ (by omega) b1 ⟨fun m hm => ?_, hx.es⟩
          rcases List.mem_append.1 hm with hm | hm
          · exact hx.fs m hm
          · rw [List.mem_singleton.1 hm]; exact b2
        · have h1' : takesB w_message s = false := by simpa using h1
          by_cases h2 : takesB w_enum s = true
          · rw [declA_enum x s h0' h1' h2]
            have a1 := mu_takes h2
            have a2 := mu_enum (takesM w_enum s)
            obtain ⟨b1, b2⟩ := enum_ok (h.takes w_enum)
            refine ih _ _ (by omega) b1 ⟨hx.fs, fun e he => ?_⟩
            rcases List.mem_append.1 he with he | he
            · exact hx.es e he
            · rw [List.mem_singleton.1 he]; exact b2
          · have h2' : takesB w_enum s = false := by simpa using h2
            by_cases h3 : takesB w_call s = true
            · rw [declA_call x s h0' h1' h2' h3]
              have a1 := mu_takes h3
              have a2 := mu_call (takesM w_call s)
              exact ih _ _ (by omega) (h.takes w_call).call ⟨hx.fs, hx.es⟩
            · rw [declA_none x s h0' hn h1' h2' (by simpa using h3)]; exact hx
theorem schema_ok {s : St} (h : StOk s) : ScOk (schemaS s).1 := decl_ok _ _ _ (Nat.le_refl _) (((h.need _).name).need _) ⟨(fun m hm => by cases hm), (fun e he => by cases he)⟩
end Go.Proofs.YtbfhglaaombglaaDoor

/- The reference's All, Valid, Count, Name. -/
namespace Go.Proofs.YtbfhglaaombglaaDoor
set_option linter.unusedVariables false
set_option linter.unusedSimpArgs false
open Go.RowKit Go.Proofs.YtbfhglaaombglaaDoorW.PrintWords

theorem infoI32 : (Tryd.prog.info? 21).map (fun i => (i.zero, i.size, i.bytes)) = some (some (.int .i32 0), 1, 4) := by kernel_rfl

def ints (l : List Nat) : List Int := l.map fun (x : Nat) => (x : Int)
theorem ints_length (l : List Nat) : (ints l).length = l.length := List.length_map ..
theorem ints_snoc (l : List Nat) (r : Nat) : ints l ++ [(r : Int)] = ints (l ++ [r]) := by simp [ints]
theorem ints_at (l : List Nat) (i : Nat) : rd (ints l) (i : Int) = ((l.getD i 0 : Nat) : Int) := by
  unfold rd ints
  rw [Int.toNat_natCast, List.getD_eq_getElem?_getD, List.getD_eq_getElem?_getD, List.getElem?_map]
  cases l[i]? <;> rfl

set_option maxRecDepth 100000 in
set_option maxHeartbeats 1000000 in
theorem rall_any (s : ByteArray) (w : World) (hs : s.size ≤ 2097152) :
    Calls Tryd.prog 57 #[.string s] w fun e w' => ∃ (v : Value) (l : List Nat) (ok : Bool), e = .returned (.tuple #[v, .bool ok]) ∧ Aside0 ((ok = true ∧ runesG s = some l) ∨ (ok = false ∧ runesG s = none ∧ l = [])) ∧ Aside0 (w'.ownsRow w.heap.size 21 1 v (ints l).length (nums .i32 (ints l))) ∧ Aside0 (Below w.heap.size w w') := by
  go_enter Tryd.func57, Tryd.ntmps57
  go_wp2_with fail
  go_loopw [4, 5] (fun v u wr => ∃ (pos k : Nat) (acc : List Nat), u = .int .i64 (pos : Int) ∧ pos ≤ s.size ∧ Aside0 ((runesF s k pos).map (acc ++ ·) = runesG s) ∧ Aside0 (s.size ≤ pos + k) ∧ acc.length ≤ pos ∧ Aside0 (wr.ownsRow w.heap.size 21 1 v (ints acc).length (nums .i32 (ints acc))) ∧ Aside0 (Below w.heap.size w wr)) (fun _ u _ => s.size - (intOf u).toNat)
  case atStart => exact ⟨0, s.size, [], rfl, by omega, ⟨by rw [show runesF s s.size 0 = runesG s from rfl]; cases runesG s <;> simp⟩, ⟨by omega⟩, by simp, ⟨own_nil _ _ _ _⟩, ⟨Below.refl _ _⟩⟩
  case round =>
    obtain ⟨pos, k, acc, rfl, hpos, HG, HF, hacc, HO, HB⟩ := hrel
    by_cases hp : pos < s.size
    · obtain ⟨r, n, hd⟩ : ∃ r n, Utf8.decode s pos = (r, n) := ⟨_, _, rfl⟩
      have hn1 := dec_pos s pos hp
      have hn2 := dec_le s pos hp
      rw [hd] at hn1 hn2
      simp only at hn1 hn2
      obtain ⟨k, rfl⟩ : ∃ k', k = k' + 1 := ⟨k - 1, by have := HF.out; omega⟩
      have hst := HG.out
      rw [runesF_step s k pos hp, hd] at hst
      simp only at hst
      by_cases hb : r = 65533 ∧ n < 2
      · have HN : Aside0 (nextG s (pos : Int) = (0, 0, false)) := ⟨by rw [nextG, if_neg (by omega), Int.toNat_natCast, hd, if_pos hb]⟩
        rw [if_pos hb] at hst
        have HST := Aside0.mk hst
        clear hst hd hb
        go_wp2_with fail
        refine (rnext_at s pos _ (by omega) 0 0 false HN).mono ?_
        rintro e w1 ⟨rfl, rfl⟩
        go_wp2
        go_ret2
        exact ⟨_, [], false, rfl, ⟨.inr ⟨rfl, HST.out.symm, rfl⟩⟩, ⟨own_nil _ _ _ _⟩, HB⟩
      · have HN : Aside0 (nextG s (pos : Int) = (r, n, true)) := ⟨by rw [nextG, if_neg (by omega), Int.toNat_natCast, hd, if_neg hb]⟩
        rw [if_neg hb] at hst
        have HST := Aside0.mk (show (runesF s k (pos + n)).map ((acc ++ [r]) ++ ·) = runesG s by
          rw [← hst, Option.map_map]
          congr 1
          funext x
          simp)
        have hr32 : r ≤ 1114111 := hn2.2.2
        have hil := Aside0.mk (ints_length acc)
        have hal : ((ints acc).length + 1) * 4 ≤ 140737488355328 := by rw [hil.out]; omega
        clear hst hd hb
        go_wp2_with fail
        refine (rnext_at s pos _ (by omega) r n true HN).mono ?_
        rintro e w1 ⟨rfl, rfl⟩
        have HAL := Aside0.mk hal
        clear hal
        go_wp2_with (at_builtin; go_must (refine print_append_num (w0 := w) w.heap.size rfl _ _ 99 21 .i32 4 rfl Tryd.underlying99 infoI32 (by omega) _ (ints acc) (r : Int) rfl rfl (by exact HO.out) (by exact HB.out) (by exact HB.out.size) HAL.out ?_); rintro v3 w3 ho3 hb3 _ _; rw [ints_snoc] at ho3; have HO3 := Aside0.mk ho3; have HB3 := Aside0.mk hb3; clear ho3 hb3)
        go_roundw
        case rel => exact ⟨pos + n, k, acc ++ [r], by go_num, hn2.1, HST, ⟨by have := HF.out; omega⟩, by simp; omega, HO3, HB3⟩
        case measure => simp [intOf]; omega
    · have hgs : runesG s = some acc := by
        have h := HG.out
        rw [runesF_end s k pos hp] at h
        rw [← h]
        simp
      have HGS := Aside0.mk hgs
      clear hgs
      go_wp2
      go_ret2
      exact ⟨_, acc, true, rfl, ⟨.inl ⟨rfl, HGS.out⟩⟩, HO, HB⟩

end Go.Proofs.YtbfhglaaombglaaDoor

/- The reference's Name; the law RunesAll. -/
namespace Go.Proofs.YtbfhglaaombglaaDoor
set_option linter.unusedVariables false
set_option linter.unusedSimpArgs false
open Go.RowKit Go.Proofs.YtbfhglaaombglaaDoorW.PrintWords

theorem chk_drop (l : List Nat) (i : Nat) (h : i < l.length) : chk false (l.drop i) = ((letterF ((l.getD i 0 : Nat) : Int) || digitF ((l.getD i 0 : Nat) : Int)) && chk false (l.drop (i + 1))) := by
  rw [List.drop_eq_getElem_cons h, chk, List.getD_eq_getElem?_getD, List.getElem?_eq_getElem h]
  rfl

set_option maxRecDepth 100000 in
set_option maxHeartbeats 1000000 in
theorem rname_run (s : ByteArray) (w : World) (hs : s.size ≤ 2097152) (l : List Nat) (hl : Aside0 (runesG s = some l)) (h1 : 1 ≤ l.length) (h2 : l.length ≤ 20) (hf : Aside0 (letterF ((l.getD 0 0 : Nat) : Int) = true)) (hk : Aside0 (keyF s = false)) (v : Bool) (hv : Aside0 (chk false (l.drop 1) = v)) :
    Calls Tryd.prog 44 #[.string s] w fun e w' => e = .returned (.bool v) ∧ Below w.heap.size w w' := by
  go_enter Tryd.func44, Tryd.ntmps44
  go_wp2_with fail
  refine (rall_any s _ hs).mono ?_
  rintro e w1 ⟨v1, l', ok, rfl, hok, ho, hB⟩
  obtain ⟨rfl, rfl⟩ : ok = true ∧ l' = l := by
    rcases hok.out with ⟨e1, e2⟩ | ⟨e1, e2, e3⟩
    · rw [hl.out] at e2; exact ⟨e1, (Option.some.inj e2).symm⟩
    · rw [hl.out] at e2; cases e2
  obtain ⟨A, c2, rfl, hr⟩ := own_reads ho.out
  obtain ⟨m, hm⟩ : ∃ m, l'.length = m := ⟨_, rfl⟩
  rw [ints_length, hm] at hr
  rw [ints_length, hm]
  rw [hm] at h1 h2
  have HR := Aside0.mk hr
  have HM := Aside0.mk hm
  clear hr hm hok
  obtain ⟨ad, rfl, hcell⟩ := HR.out.at_ ((0 : Nat) : Int) (by omega) (by omega)
  rw [Int.toNat_natCast, ints_at] at hcell
  obtain ⟨r0, hr0⟩ : ∃ r, l'.getD 0 0 = r := ⟨_, rfl⟩
  rw [hr0] at hcell hf
  have hcell0 := hcell
  rw [show ad.add 0 = ad from if_pos rfl] at hcell0
  have HR0 := Aside0.mk hr0
  have d1 : decide (m < 1) = false := decide_eq_false (by omega)
  have d2 : decide (20 < m) = false := decide_eq_false (by omega)
  have d3 : decide ((m : Int) < 1) = false := decide_eq_false (by omega)
  have d4 : decide (20 < (m : Int)) = false := decide_eq_false (by omega)
  have hm0 : 0 < m := by omega
  clear hr0
  go_wp2_with fail
  refine (rletter_any (r0 : Int) _ true hf).mono ?_
  rintro e w2 ⟨rfl, rfl⟩
  go_wp2_with fail
  refine (rkey_any s _ false hk).mono ?_
  rintro e w3 ⟨rfl, rfl⟩
  clear hcell hcell0
  go_wp2_with fail
  go_loop [5] (fun u => ∃ i : Nat, u = .int .i64 (i : Int) ∧ 1 ≤ i ∧ i ≤ m ∧ Aside0 (chk false (l'.drop i) = v)) (fun u => m - (intOf u).toNat)
  case atStart => exact ⟨1, rfl, by omega, h1, hv⟩
  case round =>
    obtain ⟨i, rfl, hi1, hi, HV⟩ := hrel
    by_cases hlt : i < m
    · obtain ⟨_, e1, hcell⟩ := HR.out.at_ ((i : Nat) : Int) (by omega) (by omega)
      cases e1
      rw [Int.toNat_natCast, ints_at] at hcell
      obtain ⟨r, hr⟩ : ∃ r, l'.getD i 0 = r := ⟨_, rfl⟩
      rw [hr] at hcell
      obtain ⟨c1, H1⟩ : ∃ b, Aside0 (letterF (r : Int) = b) := ⟨_, ⟨rfl⟩⟩
      obtain ⟨c2', H2⟩ : ∃ b, Aside0 (digitF (r : Int) = b) := ⟨_, ⟨rfl⟩⟩
      have hst := HV.out
      rw [chk_drop l' i (by rw [HM.out]; exact hlt), hr, H1.out, H2.out] at hst
      have HST := Aside0.mk hst
      clear hr hst
      go_wp2_with fail
      refine (rletter_any (r : Int) _ c1 H1).mono ?_
      rintro e w2 ⟨rfl, rfl⟩
      cases c1 with
      | true =>
        go_wp2
        go_round
        case rel => exact ⟨i + 1, by go_num, by omega, by omega, ⟨by have h := HST.out; rw [Bool.true_or, Bool.true_and] at h; exact h⟩⟩
        case measure => simp [intOf]; omega
      | false =>
        go_wp2_with fail
        refine (rdigit_any (r : Int) _ c2' H2).mono ?_
        rintro e w2 ⟨rfl, rfl⟩
        cases c2' with
        | true =>
          go_wp2
          go_round
          case rel => exact ⟨i + 1, by go_num, by omega, by omega, ⟨by have h := HST.out; rw [Bool.or_true, Bool.true_and] at h; exact h⟩⟩
          case measure => simp [intOf]; omega
        | false =>
          have hvf : v = false := by have h := HST.out; rw [← h]; rfl
          subst hvf
          go_wp2
          go_ret
          exact ⟨rfl, hB.out⟩
    · have hvt : v = true := by
        have h := HV.out
        rw [List.drop_eq_nil_of_le (by rw [HM.out]; omega)] at h
        rw [← h]
        rfl
      subst hvt
      go_wp2
      go_ret
      exact ⟨rfl, hB.out⟩

theorem rname_none (s : ByteArray) (w : World) (hs : s.size ≤ 2097152) (hl : Aside0 (runesG s = none)) :
    Calls Tryd.prog 44 #[.string s] w fun e w' => e = .returned (.bool false) ∧ Below w.heap.size w w' := by
  go_enter Tryd.func44, Tryd.ntmps44
  go_wp2_with fail
  refine (rall_any s _ hs).mono ?_
  rintro e w1 ⟨v1, l', ok, rfl, hok, ho, hB⟩
  obtain rfl : ok = false := by
    rcases hok.out with ⟨e1, e2⟩ | ⟨e1, e2, e3⟩
    · rw [hl.out] at e2; cases e2
    · exact e1
  obtain ⟨A, c2, rfl, hr⟩ := own_reads ho.out
  clear hr
  go_wp2
  go_ret
  exact ⟨rfl, hB.out⟩

theorem rname_len (s : ByteArray) (w : World) (hs : s.size ≤ 2097152) (l : List Nat) (hl : Aside0 (runesG s = some l)) (h : l.length < 1 ∨ 20 < l.length) :
    Calls Tryd.prog 44 #[.string s] w fun e w' => e = .returned (.bool false) ∧ Below w.heap.size w w' := by
  go_enter Tryd.func44, Tryd.ntmps44
  go_wp2_with fail
  refine (rall_any s _ hs).mono ?_
  rintro e w1 ⟨v1, l', ok, rfl, hok, ho, hB⟩
  obtain ⟨rfl, rfl⟩ : ok = true ∧ l' = l := by
    rcases hok.out with ⟨e1, e2⟩ | ⟨e1, e2, e3⟩
    · rw [hl.out] at e2; exact ⟨e1, (Option.some.inj e2).symm⟩
    · rw [hl.out] at e2; cases e2
  obtain ⟨A, c2, rfl, hr⟩ := own_reads ho.out
  obtain ⟨m, hm⟩ : ∃ m, l'.length = m := ⟨_, rfl⟩
  rw [ints_length, hm]
  rw [hm] at h
  have hmx : m ≤ 9223372036854775807 := by have h1 := hr.2.1; rw [ints_length, hm] at h1; exact h1
  clear hr hm
  by_cases h1 : m < 1
  · clear h
    go_wp2
    go_ret
    exact ⟨rfl, hB.out⟩
  · have h2 : 20 < m := by omega
    clear h
    go_wp2
    go_ret
    exact ⟨rfl, hB.out⟩

set_option maxHeartbeats 1000000 in
theorem rname_bad (s : ByteArray) (w : World) (hs : s.size ≤ 2097152) (l : List Nat) (hl : Aside0 (runesG s = some l)) (h1 : 1 ≤ l.length) (h2 : l.length ≤ 20) (c1 : Bool) (hf : Aside0 (letterF ((l.getD 0 0 : Nat) : Int) = c1)) (c2 : Bool) (hk : Aside0 (keyF s = c2)) (hb : c1 = false ∨ c2 = true) :
    Calls Tryd.prog 44 #[.string s] w fun e w' => e = .returned (.bool false) ∧ Below w.heap.size w w' := by
  go_enter Tryd.func44, Tryd.ntmps44
  go_wp2_with fail
  refine (rall_any s _ hs).mono ?_
  rintro e w1 ⟨v1, l', ok, rfl, hok, ho, hB⟩
  obtain ⟨rfl, rfl⟩ : ok = true ∧ l' = l := by
    rcases hok.out with ⟨e1, e2⟩ | ⟨e1, e2, e3⟩
    · rw [hl.out] at e2; exact ⟨e1, (Option.some.inj e2).symm⟩
    · rw [hl.out] at e2; cases e2
  obtain ⟨A, c3, rfl, hr⟩ := own_reads ho.out
  obtain ⟨m, hm⟩ : ∃ m, l'.length = m := ⟨_, rfl⟩
  rw [ints_length, hm] at hr
  rw [ints_length, hm]
  rw [hm] at h1 h2
  have HR := Aside0.mk hr
  clear hr hm hok
  obtain ⟨ad, rfl, hcell⟩ := HR.out.at_ ((0 : Nat) : Int) (by omega) (by omega)
  rw [Int.toNat_natCast, ints_at] at hcell
  obtain ⟨r0, hr0⟩ : ∃ r, l'.getD 0 0 = r := ⟨_, rfl⟩
  rw [hr0] at hcell hf
  have hcell0 := hcell
  rw [show ad.add 0 = ad from if_pos rfl] at hcell0
  have d1 : decide (m < 1) = false := decide_eq_false (by omega)
  have d2 : decide (20 < m) = false := decide_eq_false (by omega)
  have d3 : decide ((m : Int) < 1) = false := decide_eq_false (by omega)
  have d4 : decide (20 < (m : Int)) = false := decide_eq_false (by omega)
  have hm0 : 0 < m := by omega
  clear hr0
  go_wp2_with fail
  refine (rletter_any (r0 : Int) _ c1 hf).mono ?_
  rintro e w2 ⟨rfl, rfl⟩
  cases c1 with
  | false =>
    clear hb
    go_wp2
    go_ret
    exact ⟨rfl, hB.out⟩
  | true =>
    obtain rfl : c2 = true := by
      rcases hb with h | h
      · cases h
      · exact h
    clear hb
    go_wp2_with fail
    refine (rkey_any s _ true hk).mono ?_
    rintro e w3 ⟨rfl, rfl⟩
    go_wp2
    go_ret
    exact ⟨rfl, hB.out⟩

theorem rname_any (s : ByteArray) (w : World) (hs : s.size ≤ 2097152) (v : Bool) (hv : Aside0 (nameG s = v)) :
    Calls Tryd.prog 44 #[.string s] w fun e w' => e = .returned (.bool v) ∧ Below w.heap.size w w' := by
  have h := hv.out
  rw [nameG] at h
  cases hl : runesG s with
  | none =>
    rw [hl] at h
    subst h
    exact rname_none s w hs ⟨hl⟩
  | some l =>
    rw [hl] at h
    simp only at h
    by_cases h1 : 1 ≤ l.length
    · by_cases h2 : l.length ≤ 20
      · rw [decide_eq_true h1, decide_eq_true h2, Bool.true_and, Bool.true_and] at h
        have hc : chk true l = (letterF ((l.getD 0 0 : Nat) : Int) && chk false (l.drop 1)) := by
          cases l with
          | nil => simp at h1
          | cons r l => rfl
        rw [hc] at h
        cases hk : keyF s with
        | true =>
          rw [hk] at h
          subst h
          exact rname_bad s w hs l ⟨hl⟩ h1 h2 _ ⟨rfl⟩ _ ⟨hk⟩ (.inr rfl)
        | false =>
          rw [hk] at h
          cases hf : letterF ((l.getD 0 0 : Nat) : Int) with
          | false =>
            rw [hf] at h
            subst h
            exact rname_bad s w hs l ⟨hl⟩ h1 h2 _ ⟨hf⟩ _ ⟨hk⟩ (.inl rfl)
          | true =>
            rw [hf] at h
            exact rname_run s w hs l ⟨hl⟩ h1 h2 ⟨hf⟩ ⟨hk⟩ v ⟨by rw [← h]; rfl⟩
      · rw [decide_eq_false h2, Bool.false_and, Bool.and_false] at h
        subst h
        exact rname_len s w hs l ⟨hl⟩ (.inr (by omega))
    · rw [decide_eq_false h1, Bool.false_and] at h
      subst h
      exact rname_len s w hs l ⟨hl⟩ (.inl (by omega))

end Go.Proofs.YtbfhglaaombglaaDoor

/- Place: a number as one from 0 to n - 1. -/
namespace Go.Proofs.YtbfhglaaombglaaDoor
set_option linter.unusedVariables false
set_option linter.unusedSimpArgs false
open Go.RowKit Go.Proofs.YtbfhglaaombglaaDoorW.PrintWords

theorem tmod_lo (a : Int) (n : Nat) (h : 0 < n) : -(n : Int) < a.tmod n := by
  rcases Int.lt_or_le a 0 with h1 | h1
  · have h2 := Int.tmod_lt_of_pos (-a) (show (0 : Int) < n by omega)
    rw [Int.neg_tmod] at h2
    omega
  · have := Int.tmod_nonneg (n : Int) h1
    omega

theorem place_any (v : Int) (n : Nat) (w : World) (h : 0 < n) (hn : n ≤ 9223372036854775807) :
    Calls Tryd.prog 13 #[.int .i64 v, .int .i64 (n : Int)] w fun e w' => ∃ k : Nat, e = .returned (.int .i64 (k : Int)) ∧ k < n ∧ w = w' := by
  obtain ⟨t, ht⟩ : ∃ t, v.tmod n = t := ⟨_, rfl⟩
  have ht1 : t < n := by rw [← ht]; exact Int.tmod_lt_of_pos _ (by omega)
  have ht2 : -(n : Int) < t := by rw [← ht]; exact tmod_lo _ _ h
  have hn0 : ((n : Int) == 0) = false := by rw [beq_eq_false_iff_ne]; omega
  have hne : ¬ (n : Int) = 0 := by omega
  by_cases hneg : t < 0
  · go_enter Tryd.func13, Tryd.ntmps13
    go_wp2
    go_ret
    refine ⟨(t + n).toNat, ?_, by omega, rfl⟩
    rw [Int.toNat_of_nonneg (by omega)]
    rfl
  · go_enter Tryd.func13, Tryd.ntmps13
    go_wp2
    go_ret
    refine ⟨t.toNat, ?_, by omega, rfl⟩
    rw [Int.toNat_of_nonneg (by omega)]
    rfl

theorem place_new (v m : Int) (w : World) (h : 0 < m) (hm : m ≤ 9223372036854775807) :
    Calls Tryd.prog 13 #[.int .i64 v, .int .i64 m] w fun e w' => ∃ k : Nat, e = .returned (.int .i64 (k : Int)) ∧ (k : Int) < m ∧ w = w' := by
  obtain ⟨n, rfl⟩ := Int.eq_ofNat_of_zero_le (show 0 ≤ m by omega)
  exact (place_any v n w (by omega) (by omega)).mono fun _ _ ⟨k, h1, h2, h3⟩ => ⟨k, h1, by omega, h3⟩
end Go.Proofs.YtbfhglaaombglaaDoor
