/- The reference's Next: the walk. -/
import Derived.Test.YtabcaeckoghmpaaDoorRRefNext
import Derived.IntWalk
namespace Go.Proofs.YtabcaeckoghmpaaDoor
set_option linter.unusedVariables false
set_option linter.unusedSimpArgs false
open Go.RowKit Go.Proofs.YtabcaeckoghmpaaDoorW.PrintWords

theorem rnext_out (s : ByteArray) (a : Int) (w : World) (hs : s.size ≤ 4611686018427387904) (h : a < 0 ∨ (s.size : Int) ≤ a) :
    Calls Tryd.prog 43 #[.string s, .int .i64 a] w fun e w' => e = .returned (.tuple #[.int .i32 0, .int .i64 0, .bool false]) ∧ w = w' := by
  by_cases h0 : a < 0
  · clear h
    go_enter Tryd.func43, Tryd.ntmps43
    go_wp2
    go_ret3
    exact ⟨rfl, rfl⟩
  · have h1 : (s.size : Int) ≤ a := by omega
    clear h
    go_enter Tryd.func43, Tryd.ntmps43
    go_wp2
    go_ret3
    exact ⟨rfl, rfl⟩

set_option maxRecDepth 100000 in
theorem rnext_low (s : ByteArray) (a x : Nat) (w : World) (hs : s.size ≤ 4611686018427387904) (ha : a < s.size) (hsi : (s[a]'ha).toNat = x) (h : x < 128) :
    Calls Tryd.prog 43 #[.string s, .int .i64 (a : Int)] w fun e w' => e = .returned (.tuple #[.int .i32 (x : Int), .int .i64 1, .bool true]) ∧ w = w' := by
  have hw : IntKind.i32.wrap (x : Int) = x := IntWalk.i32_in _ (by omega)
  go_enter Tryd.func43, Tryd.ntmps43
  go_wp2
  go_ret3
  exact ⟨rfl, rfl⟩

set_option maxRecDepth 100000 in
theorem rnext_none (s : ByteArray) (a x : Nat) (w : World) (hs : s.size ≤ 4611686018427387904) (ha : a < s.size) (hsi : (s[a]'ha).toNat = x) (hx : x < 256) (h : (128 ≤ x ∧ x < 192) ∨ 248 ≤ x) :
    Calls Tryd.prog 43 #[.string s, .int .i64 (a : Int)] w fun e w' => e = .returned (.tuple #[.int .i32 0, .int .i64 0, .bool false]) ∧ w = w' := by
  have c0 : decide ((x : Int) < 128) = false := decide_eq_false (by omega)
  by_cases h1 : x < 192
  · have c1 : decide (192 ≤ (x : Int)) = false := decide_eq_false (by omega)
    have c2 : decide (224 ≤ (x : Int)) = false := decide_eq_false (by omega)
    have c3 : decide (240 ≤ (x : Int)) = false := decide_eq_false (by omega)
    clear h
    go_enter Tryd.func43, Tryd.ntmps43
    go_wp2
    go_ret3
    exact ⟨rfl, rfl⟩
  · have e1 : decide (192 ≤ (x : Int)) = true := decide_eq_true (by omega)
    have e2 : decide (224 ≤ (x : Int)) = true := decide_eq_true (by omega)
    have e3 : decide (240 ≤ (x : Int)) = true := decide_eq_true (by omega)
    have d1 : decide ((x : Int) < 224) = false := decide_eq_false (by omega)
    have d2 : decide ((x : Int) < 240) = false := decide_eq_false (by omega)
    have d3 : decide ((x : Int) < 248) = false := decide_eq_false (by omega)
    clear h
    go_enter Tryd.func43, Tryd.ntmps43
    go_wp2
    go_ret3
    exact ⟨rfl, rfl⟩

theorem valF_lt (s : ByteArray) (a v0 : Nat) (h : v0 < 32) : ∀ k, valF s a v0 k < 32 * 64 ^ k := by
  intro k
  induction k with
  | zero => simpa [valF] using h
  | succ k ih =>
    have h1 : (tailF s (a + (k + 1))).toNat < 64 := by
      by_cases h2 : 0 ≤ tailF s (a + (k + 1))
      · rw [tail_val s _ h2]; omega
      · omega
    rw [valF, Nat.pow_succ]
    omega

set_option maxRecDepth 100000 in
set_option maxHeartbeats 1000000 in
theorem rnext_c2 (s : ByteArray) (a x : Nat) (w : World) (hs : s.size ≤ 4611686018427387904) (ha : a < s.size) (hsi : (s[a]'ha).toNat = x) (hx : bt8 s a = x) (h1 : 192 ≤ x) (h2 : x < 224) (r n : Nat) (ok : Bool) (hG : Aside0 (nextG s (a : Int) = (r, n, ok))) :
    Calls Tryd.prog 43 #[.string s, .int .i64 (a : Int)] w fun e w' => e = .returned (.tuple #[.int .i32 (r : Int), .int .i64 (n : Int), .bool ok]) ∧ w = w' := by
  have HN := Aside0.mk (nextG_2 s a ha (by rw [hx]; exact ⟨h1, h2⟩))
  rw [hG.out, hx] at HN
  have b0 : decide (192 ≤ (x : Int)) = true := decide_eq_true (by omega)
  have b1 : decide ((x : Int) < 224) = true := decide_eq_true (by omega)
  have c0 : decide ((x : Int) < 128) = false := decide_eq_false (by omega)
  have c1 : decide ((a : Int) < 0) = false := decide_eq_false (by omega)
  have c2 : decide (s.size ≤ a) = false := decide_eq_false (by omega)
  have c3 : decide ((s.size : Int) ≤ (a : Int)) = false := decide_eq_false (by omega)
  have HX := Aside0.mk hx
  clear hx hG
  obtain ⟨v0, hv0⟩ : ∃ v0, x - 192 = v0 := ⟨_, rfl⟩
  have hv32 : v0 < 32 := by omega
  have HV0 := Aside0.mk hv0
  rw [hv0] at HN
  have hxv : (x : Int) - 192 = (v0 : Int) := by omega
  have HL := Aside0.mk (valF_lt s a v0 hv32)
  clear hv0
  go_enter Tryd.func43, Tryd.ntmps43
  go_wp2_with fail
  go_loop [9, 11] (fun t u => ∃ (v i : Nat), t = .int .i64 (v : Int) ∧ u = .int .i64 (i : Int) ∧ 1 ≤ i ∧ i ≤ 2 ∧ v < 8388608 ∧ Aside0 (v = valF s a v0 (i - 1)) ∧ Aside0 (∀ j, 1 ≤ j → j < i → 0 ≤ tailF s (a + j))) (fun _ u => 2 - (intOf u).toNat)
  case atStart => exact ⟨v0, 1, rfl, rfl, by omega, by omega, by omega, ⟨rfl⟩, ⟨fun j h3 h4 => by omega⟩⟩
  case round =>
    obtain ⟨v, i, rfl, rfl, hi1, hi2, hvl, HV, HJ⟩ := hrel
    have hvl2 : v < 8388608 := hvl
    by_cases hlt : i < 2
    · have k1 : IntKind.i64.wrap ((a : Int) + (i : Int)) = ((a + i : Nat) : Int) := by rw [IntWalk.i64_in _ (by omega)]; omega
      obtain ⟨t, ht⟩ : ∃ t, tailF s (a + i) = t := ⟨_, rfl⟩
      go_wp2_with fail
      refine (tail_at s (a + i) _ (by omega) (by omega) t ⟨ht⟩).mono ?_
      rintro e w1 ⟨rfl, rfl⟩
      by_cases ht0 : t < 0
      · have e := HN.out
        rw [if_neg (by
          intro hh
          have h5 : 0 ≤ tailF s (a + i) := by
            have h6 := hh.1
            have h7 : i = 1 ∨ i = 2 ∨ i = 3 := by omega
            rcases h7 with rfl | rfl | rfl <;> first | omega | exact h6 | exact h6.1 | exact h6.2 | exact h6.1.1 | exact h6.1.2
          omega)] at e
        simp only [Prod.mk.injEq] at e
        obtain ⟨rfl, rfl, rfl⟩ := e
        have HT := Aside0.mk ht
        clear ht
        go_wp2
        go_ret3
        exact ⟨rfl, rfl⟩
      · have hv' := HL.out i
        have e2 : valF s a v0 i = 64 * v + t.toNat := by
          obtain ⟨m, rfl⟩ : ∃ m, i = m + 1 := ⟨i - 1, by omega⟩
          rw [valF, ht, HV.out, Nat.add_sub_cancel]
        have ht64 : t < 64 := by
          have h5 := tail_val s (a + i) (by omega)
          rw [ht] at h5
          omega
        obtain ⟨t, rfl⟩ := Int.eq_ofNat_of_zero_le (show 0 ≤ t by omega)
        rw [Int.toNat_natCast] at e2
        have h8 : 32 * 64 ^ i ≤ 8388608 := by
          have h7 : i = 1 ∨ i = 2 ∨ i = 3 := by omega
          rcases h7 with rfl | rfl | rfl <;> decide
        have hvb : 64 * v + t < 8388608 := by omega
        have HE := Aside0.mk e2
        have HTT := Aside0.mk ht
        clear e2 ht h8 hv'
        go_wp2
        go_round
        case rel =>
          refine ⟨64 * v + t, i + 1, by go_num, by go_num, by omega, by omega, hvb, ⟨by rw [Nat.add_sub_cancel, HE.out]⟩, ⟨fun j h3 h4 => ?_⟩⟩
          rcases Nat.lt_or_ge j i with h | h
          · exact HJ.out j h3 h
          · obtain rfl : j = i := by omega
            rw [HTT.out]
            omega
        case measure => simp [intOf]; omega
    · obtain rfl : i = 2 := by omega
      have hall : 0 ≤ tailF s (a + 1) := HJ.out 1 (by omega) (by omega)
      have hvv : v = valF s a v0 1 := HV.out
      have hvl3 := HL.out 1
      have e := HN.out
      rw [← hvv] at e hvl3
      have HALL := Aside0.mk hall
      have HVV := Aside0.mk hvv
      clear hall hvv HV
      have kw : IntKind.i32.wrap (v : Int) = v := IntWalk.i32_in _ (by omega)
      by_cases g1 : v < 128
      · have d1 : decide ((v : Int) < 128) = true := decide_eq_true (by omega)
        rw [if_neg (fun hh => by have := hh.2; omega)] at e
        simp only [Prod.mk.injEq] at e
        obtain ⟨rfl, rfl, rfl⟩ := e
        clear hvl3
        go_wp2
        go_ret3
        exact ⟨rfl, rfl⟩
      · have d1 : decide ((v : Int) < 128) = false := decide_eq_false (by omega)
        have d2 : decide (1114111 < (v : Int)) = false := decide_eq_false (by omega)
        have d3 : decide (55296 ≤ (v : Int)) = false := decide_eq_false (by omega)
        rw [if_pos ⟨HALL.out, by omega⟩] at e
        simp only [Prod.mk.injEq] at e
        obtain ⟨rfl, rfl, rfl⟩ := e
        clear hvl3
        go_wp2
        go_ret3
        exact ⟨rfl, rfl⟩

set_option maxRecDepth 100000 in
set_option maxHeartbeats 1000000 in
theorem rnext_c3 (s : ByteArray) (a x : Nat) (w : World) (hs : s.size ≤ 4611686018427387904) (ha : a < s.size) (hsi : (s[a]'ha).toNat = x) (hx : bt8 s a = x) (h1 : 224 ≤ x) (h2 : x < 240) (r n : Nat) (ok : Bool) (hG : Aside0 (nextG s (a : Int) = (r, n, ok))) :
    Calls Tryd.prog 43 #[.string s, .int .i64 (a : Int)] w fun e w' => e = .returned (.tuple #[.int .i32 (r : Int), .int .i64 (n : Int), .bool ok]) ∧ w = w' := by
  have HN := Aside0.mk (nextG_3 s a ha (by rw [hx]; exact ⟨h1, h2⟩))
  rw [hG.out, hx] at HN
  have b0 : decide (192 ≤ (x : Int)) = true := decide_eq_true (by omega)
  have b1 : decide (224 ≤ (x : Int)) = true := decide_eq_true (by omega)
  have b2 : decide ((x : Int) < 240) = true := decide_eq_true (by omega)
  have c0 : decide ((x : Int) < 128) = false := decide_eq_false (by omega)
  have c1 : decide ((a : Int) < 0) = false := decide_eq_false (by omega)
  have c2 : decide (s.size ≤ a) = false := decide_eq_false (by omega)
  have c3 : decide ((s.size : Int) ≤ (a : Int)) = false := decide_eq_false (by omega)
  have c4 : decide ((x : Int) < 224) = false := decide_eq_false (by omega)
  have HX := Aside0.mk hx
  clear hx hG
  obtain ⟨v0, hv0⟩ : ∃ v0, x - 224 = v0 := ⟨_, rfl⟩
  have hv32 : v0 < 32 := by omega
  have HV0 := Aside0.mk hv0
  rw [hv0] at HN
  have hxv : (x : Int) - 224 = (v0 : Int) := by omega
  have HL := Aside0.mk (valF_lt s a v0 hv32)
  clear hv0
  go_enter Tryd.func43, Tryd.ntmps43
  go_wp2_with fail
  go_loop [9, 11] (fun t u => ∃ (v i : Nat), t = .int .i64 (v : Int) ∧ u = .int .i64 (i : Int) ∧ 1 ≤ i ∧ i ≤ 3 ∧ v < 8388608 ∧ Aside0 (v = valF s a v0 (i - 1)) ∧ Aside0 (∀ j, 1 ≤ j → j < i → 0 ≤ tailF s (a + j))) (fun _ u => 3 - (intOf u).toNat)
  case atStart => exact ⟨v0, 1, rfl, rfl, by omega, by omega, by omega, ⟨rfl⟩, ⟨fun j h3 h4 => by omega⟩⟩
  case round =>
    obtain ⟨v, i, rfl, rfl, hi1, hi2, hvl, HV, HJ⟩ := hrel
    have hvl2 : v < 8388608 := hvl
    by_cases hlt : i < 3
    · have k1 : IntKind.i64.wrap ((a : Int) + (i : Int)) = ((a + i : Nat) : Int) := by rw [IntWalk.i64_in _ (by omega)]; omega
      obtain ⟨t, ht⟩ : ∃ t, tailF s (a + i) = t := ⟨_, rfl⟩
      go_wp2_with fail
      refine (tail_at s (a + i) _ (by omega) (by omega) t ⟨ht⟩).mono ?_
      rintro e w1 ⟨rfl, rfl⟩
      by_cases ht0 : t < 0
      · have e := HN.out
        rw [if_neg (by
          intro hh
          have h5 : 0 ≤ tailF s (a + i) := by
            have h6 := hh.1
            have h7 : i = 1 ∨ i = 2 ∨ i = 3 := by omega
            rcases h7 with rfl | rfl | rfl <;> first | omega | exact h6 | exact h6.1 | exact h6.2 | exact h6.1.1 | exact h6.1.2
          omega)] at e
        simp only [Prod.mk.injEq] at e
        obtain ⟨rfl, rfl, rfl⟩ := e
        have HT := Aside0.mk ht
        clear ht
        go_wp2
        go_ret3
        exact ⟨rfl, rfl⟩
      · have hv' := HL.out i
        have e2 : valF s a v0 i = 64 * v + t.toNat := by
          obtain ⟨m, rfl⟩ : ∃ m, i = m + 1 := ⟨i - 1, by omega⟩
          rw [valF, ht, HV.out, Nat.add_sub_cancel]
        have ht64 : t < 64 := by
          have h5 := tail_val s (a + i) (by omega)
          rw [ht] at h5
          omega
        obtain ⟨t, rfl⟩ := Int.eq_ofNat_of_zero_le (show 0 ≤ t by omega)
        rw [Int.toNat_natCast] at e2
        have h8 : 32 * 64 ^ i ≤ 8388608 := by
          have h7 : i = 1 ∨ i = 2 ∨ i = 3 := by omega
          rcases h7 with rfl | rfl | rfl <;> decide
        have hvb : 64 * v + t < 8388608 := by omega
        have HE := Aside0.mk e2
        have HTT := Aside0.mk ht
        clear e2 ht h8 hv'
        go_wp2
        go_round
        case rel =>
          refine ⟨64 * v + t, i + 1, by go_num, by go_num, by omega, by omega, hvb, ⟨by rw [Nat.add_sub_cancel, HE.out]⟩, ⟨fun j h3 h4 => ?_⟩⟩
          rcases Nat.lt_or_ge j i with h | h
          · exact HJ.out j h3 h
          · obtain rfl : j = i := by omega
            rw [HTT.out]
            omega
        case measure => simp [intOf]; omega
    · obtain rfl : i = 3 := by omega
      have hall : 0 ≤ tailF s (a + 1) ∧ 0 ≤ tailF s (a + 2) := ⟨HJ.out 1 (by omega) (by omega), HJ.out 2 (by omega) (by omega)⟩
      have hvv : v = valF s a v0 2 := HV.out
      have hvl3 := HL.out 2
      have e := HN.out
      rw [← hvv] at e hvl3
      have HALL := Aside0.mk hall
      have HVV := Aside0.mk hvv
      clear hall hvv HV
      have kw : IntKind.i32.wrap (v : Int) = v := IntWalk.i32_in _ (by omega)
      by_cases g1 : v < 2048
      · have d1 : decide ((v : Int) < 2048) = true := decide_eq_true (by omega)
        rw [if_neg (fun hh => by have := hh.2; omega)] at e
        simp only [Prod.mk.injEq] at e
        obtain ⟨rfl, rfl, rfl⟩ := e
        clear hvl3
        go_wp2
        go_ret3
        exact ⟨rfl, rfl⟩
      · have d1 : decide ((v : Int) < 2048) = false := decide_eq_false (by omega)
        have d2 : decide (1114111 < (v : Int)) = false := decide_eq_false (by omega)
        by_cases g2 : 55296 ≤ v
        · have d3 : decide (55296 ≤ (v : Int)) = true := decide_eq_true (by omega)
          by_cases g3 : v ≤ 57343
          · have d4 : decide ((v : Int) ≤ 57343) = true := decide_eq_true (by omega)
            rw [if_neg (fun hh => by have := hh.2; omega)] at e
            simp only [Prod.mk.injEq] at e
            obtain ⟨rfl, rfl, rfl⟩ := e
            clear hvl3
            go_wp2
            go_ret3
            exact ⟨rfl, rfl⟩
          · have d4 : decide ((v : Int) ≤ 57343) = false := decide_eq_false (by omega)
            rw [if_pos ⟨HALL.out, by omega⟩] at e
            simp only [Prod.mk.injEq] at e
            obtain ⟨rfl, rfl, rfl⟩ := e
            clear hvl3
            go_wp2
            go_ret3
            exact ⟨rfl, rfl⟩
        · have d3 : decide (55296 ≤ (v : Int)) = false := decide_eq_false (by omega)
          rw [if_pos ⟨HALL.out, by omega⟩] at e
          simp only [Prod.mk.injEq] at e
          obtain ⟨rfl, rfl, rfl⟩ := e
          clear hvl3
          go_wp2
          go_ret3
          exact ⟨rfl, rfl⟩

set_option maxRecDepth 100000 in
set_option maxHeartbeats 1000000 in
theorem rnext_c4 (s : ByteArray) (a x : Nat) (w : World) (hs : s.size ≤ 4611686018427387904) (ha : a < s.size) (hsi : (s[a]'ha).toNat = x) (hx : bt8 s a = x) (h1 : 240 ≤ x) (h2 : x < 248) (r n : Nat) (ok : Bool) (hG : Aside0 (nextG s (a : Int) = (r, n, ok))) :
    Calls Tryd.prog 43 #[.string s, .int .i64 (a : Int)] w fun e w' => e = .returned (.tuple #[.int .i32 (r : Int), .int .i64 (n : Int), .bool ok]) ∧ w = w' := by
  have HN := Aside0.mk (nextG_4 s a ha (by rw [hx]; exact ⟨h1, h2⟩))
  rw [hG.out, hx] at HN
  have b0 : decide (192 ≤ (x : Int)) = true := decide_eq_true (by omega)
  have b1 : decide (224 ≤ (x : Int)) = true := decide_eq_true (by omega)
  have b2 : decide (240 ≤ (x : Int)) = true := decide_eq_true (by omega)
  have b3 : decide ((x : Int) < 248) = true := decide_eq_true (by omega)
  have c0 : decide ((x : Int) < 128) = false := decide_eq_false (by omega)
  have c1 : decide ((a : Int) < 0) = false := decide_eq_false (by omega)
  have c2 : decide (s.size ≤ a) = false := decide_eq_false (by omega)
  have c3 : decide ((s.size : Int) ≤ (a : Int)) = false := decide_eq_false (by omega)
  have c4 : decide ((x : Int) < 224) = false := decide_eq_false (by omega)
  have c5 : decide ((x : Int) < 240) = false := decide_eq_false (by omega)
  have HX := Aside0.mk hx
  clear hx hG
  obtain ⟨v0, hv0⟩ : ∃ v0, x - 240 = v0 := ⟨_, rfl⟩
  have hv32 : v0 < 32 := by omega
  have HV0 := Aside0.mk hv0
  rw [hv0] at HN
  have hxv : (x : Int) - 240 = (v0 : Int) := by omega
  have HL := Aside0.mk (valF_lt s a v0 hv32)
  clear hv0
  go_enter Tryd.func43, Tryd.ntmps43
  go_wp2_with fail
  go_loop [9, 11] (fun t u => ∃ (v i : Nat), t = .int .i64 (v : Int) ∧ u = .int .i64 (i : Int) ∧ 1 ≤ i ∧ i ≤ 4 ∧ v < 8388608 ∧ Aside0 (v = valF s a v0 (i - 1)) ∧ Aside0 (∀ j, 1 ≤ j → j < i → 0 ≤ tailF s (a + j))) (fun _ u => 4 - (intOf u).toNat)
  case atStart => exact ⟨v0, 1, rfl, rfl, by omega, by omega, by omega, ⟨rfl⟩, ⟨fun j h3 h4 => by omega⟩⟩
  case round =>
    obtain ⟨v, i, rfl, rfl, hi1, hi2, hvl, HV, HJ⟩ := hrel
    have hvl2 : v < 8388608 := hvl
    by_cases hlt : i < 4
    · have k1 : IntKind.i64.wrap ((a : Int) + (i : Int)) = ((a + i : Nat) : Int) := by rw [IntWalk.i64_in _ (by omega)]; omega
      obtain ⟨t, ht⟩ : ∃ t, tailF s (a + i) = t := ⟨_, rfl⟩
      go_wp2_with fail
      refine (tail_at s (a + i) _ (by omega) (by omega) t ⟨ht⟩).mono ?_
      rintro e w1 ⟨rfl, rfl⟩
      by_cases ht0 : t < 0
      · have e := HN.out
        rw [if_neg (by
          intro hh
          have h5 : 0 ≤ tailF s (a + i) := by
            have h6 := hh.1
            have h7 : i = 1 ∨ i = 2 ∨ i = 3 := by omega
            rcases h7 with rfl | rfl | rfl <;> first | omega | exact h6 | exact h6.1 | exact h6.2 | exact h6.1.1 | exact h6.1.2
          omega)] at e
        simp only [Prod.mk.injEq] at e
        obtain ⟨rfl, rfl, rfl⟩ := e
        have HT := Aside0.mk ht
        clear ht
        go_wp2
        go_ret3
        exact ⟨rfl, rfl⟩
      · have hv' := HL.out i
        have e2 : valF s a v0 i = 64 * v + t.toNat := by
          obtain ⟨m, rfl⟩ : ∃ m, i = m + 1 := ⟨i - 1, by omega⟩
          rw [valF, ht, HV.out, Nat.add_sub_cancel]
        have ht64 : t < 64 := by
          have h5 := tail_val s (a + i) (by omega)
          rw [ht] at h5
          omega
        obtain ⟨t, rfl⟩ := Int.eq_ofNat_of_zero_le (show 0 ≤ t by omega)
        rw [Int.toNat_natCast] at e2
        have h8 : 32 * 64 ^ i ≤ 8388608 := by
          have h7 : i = 1 ∨ i = 2 ∨ i = 3 := by omega
          rcases h7 with rfl | rfl | rfl <;> decide
        have hvb : 64 * v + t < 8388608 := by omega
        have HE := Aside0.mk e2
        have HTT := Aside0.mk ht
        clear e2 ht h8 hv'
        go_wp2
        go_round
        case rel =>
          refine ⟨64 * v + t, i + 1, by go_num, by go_num, by omega, by omega, hvb, ⟨by rw [Nat.add_sub_cancel, HE.out]⟩, ⟨fun j h3 h4 => ?_⟩⟩
          rcases Nat.lt_or_ge j i with h | h
          · exact HJ.out j h3 h
          · obtain rfl : j = i := by omega
            rw [HTT.out]
            omega
        case measure => simp [intOf]; omega
    · obtain rfl : i = 4 := by omega
      have hall : (0 ≤ tailF s (a + 1) ∧ 0 ≤ tailF s (a + 2)) ∧ 0 ≤ tailF s (a + 3) := ⟨⟨HJ.out 1 (by omega) (by omega), HJ.out 2 (by omega) (by omega)⟩, HJ.out 3 (by omega) (by omega)⟩
      have hvv : v = valF s a v0 3 := HV.out
      have hvl3 := HL.out 3
      have e := HN.out
      rw [← hvv] at e hvl3
      have HALL := Aside0.mk hall
      have HVV := Aside0.mk hvv
      clear hall hvv HV
      have kw : IntKind.i32.wrap (v : Int) = v := IntWalk.i32_in _ (by omega)
      by_cases g1 : v < 65536
      · have d1 : decide ((v : Int) < 65536) = true := decide_eq_true (by omega)
        rw [if_neg (fun hh => by have := hh.2; omega)] at e
        simp only [Prod.mk.injEq] at e
        obtain ⟨rfl, rfl, rfl⟩ := e
        clear hvl3
        go_wp2
        go_ret3
        exact ⟨rfl, rfl⟩
      · have d1 : decide ((v : Int) < 65536) = false := decide_eq_false (by omega)
        by_cases g2 : 1114111 < v
        · have d2 : decide (1114111 < (v : Int)) = true := decide_eq_true (by omega)
          rw [if_neg (fun hh => by have := hh.2; omega)] at e
          simp only [Prod.mk.injEq] at e
          obtain ⟨rfl, rfl, rfl⟩ := e
          clear hvl3
          go_wp2
          go_ret3
          exact ⟨rfl, rfl⟩
        · have d2 : decide (1114111 < (v : Int)) = false := decide_eq_false (by omega)
          have d3 : decide (55296 ≤ (v : Int)) = true := decide_eq_true (by omega)
          have d4 : decide ((v : Int) ≤ 57343) = false := decide_eq_false (by omega)
          rw [if_pos ⟨HALL.out, by omega⟩] at e
          simp only [Prod.mk.injEq] at e
          obtain ⟨rfl, rfl, rfl⟩ := e
          clear hvl3
          go_wp2
          go_ret3
          exact ⟨rfl, rfl⟩

theorem rnext_at (s : ByteArray) (a : Int) (w : World) (hs : s.size ≤ 4611686018427387904) (r n : Nat) (ok : Bool) (hG : Aside0 (nextG s a = (r, n, ok))) :
    Calls Tryd.prog 43 #[.string s, .int .i64 a] w fun e w' => e = .returned (.tuple #[.int .i32 (r : Int), .int .i64 (n : Int), .bool ok]) ∧ w = w' := by
  by_cases h : a < 0 ∨ (s.size : Int) ≤ a
  · have e := hG.out
    rw [nextG, if_pos h] at e
    simp only [Prod.mk.injEq] at e
    obtain ⟨rfl, rfl, rfl⟩ := e
    exact rnext_out s a w hs h
  · obtain ⟨i, rfl⟩ := Int.eq_ofNat_of_zero_le (show 0 ≤ a by omega)
    have hi : i < s.size := by omega
    have hx := bt8_at s i hi
    have hl := bt8_lt s i
    have e := hG.out
    by_cases c1 : bt8 s i < 128
    · rw [nextG_low s i hi c1] at e
      simp only [Prod.mk.injEq] at e
      obtain ⟨rfl, rfl, rfl⟩ := e
      exact rnext_low s i _ w hs hi hx c1
    · by_cases c2 : (128 ≤ bt8 s i ∧ bt8 s i < 192) ∨ 248 ≤ bt8 s i
      · rw [nextG_none s i hi c2] at e
        simp only [Prod.mk.injEq] at e
        obtain ⟨rfl, rfl, rfl⟩ := e
        exact rnext_none s i _ w hs hi hx hl c2
      · by_cases c3 : bt8 s i < 224
        · exact rnext_c2 s i _ w hs hi hx rfl (by omega) c3 r n ok hG
        · by_cases c4 : bt8 s i < 240
          · exact rnext_c3 s i _ w hs hi hx rfl (by omega) c4 r n ok hG
          · exact rnext_c4 s i _ w hs hi hx rfl (by omega) (by omega) r n ok hG
end Go.Proofs.YtabcaeckoghmpaaDoor
