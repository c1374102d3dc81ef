/- The reference's More; Place; awake of layer 3. -/
import Derived.Test.YtabcaeckoghmpaaDoorCOf
namespace Go.Proofs.YtabcaeckoghmpaaDoor
set_option linter.unusedVariables false
set_option linter.unusedSimpArgs false
open Go.RowKit Go.Proofs.YtabcaeckoghmpaaDoorW.PrintWords

theorem not_u32' (a : Nat) (ha : a < 4294967296) : Go.bits .xor .u32 (a : Int) 4294967295 = ((inv32 a : Nat) : Int) := by
  have := xor_u32 a 4294967295 ha (by decide)
  rw [Nat.xor_comm, xor_ones32 a ha] at this
  exact this

theorem rmore_any (A : Option Addr) (n c s : Nat) (xs : List Int) (w : World) (hn : n = xs.length) (hr : ReadsInt w .u8 A n xs) (hs : s < 4294967296) (hw : ∀ x ∈ xs, 0 ≤ x ∧ x ≤ 255) :
    Calls Tryd.prog 24 #[.int .u32 (s : Int), .slice A n c] w fun e w' => e = .returned (.int .u32 (crcF s xs : Nat)) ∧ w = w' := by
  have hm := hr.2.1
  have HR := Aside0.mk hr
  have HW := Aside0.mk hw
  have HS := Aside0.mk hs
  have HN := Aside0.mk hn
  clear hr hw hs hn
  go_enter Tryd.func24, Tryd.ntmps24
  go_wp2_with fail
  go_loop [5, 6] (fun t u => ∃ (v i : Nat), t = .int .u32 (v : Int) ∧ u = .int .i64 (i : Int) ∧ i ≤ n ∧ Aside0 (v < 4294967296) ∧ Aside0 (v = reg (inv32 s) (xs.take i))) (fun _ u => n - (intOf u).toNat)
  case atStart => exact ⟨inv32 s, 0, by rw [not_u32' s HS.out], rfl, by omega, ⟨inv32_lt s⟩, ⟨rfl⟩⟩
  case round =>
    obtain ⟨v, i, rfl, rfl, hi, HV, HG⟩ := hrel
    by_cases hlt : i < n
    · obtain ⟨ad, rfl, hcell⟩ := HR.out.at_ i (by omega) (by omega)
      rw [Int.toNat_natCast] at hcell
      obtain ⟨x, hx⟩ : ∃ x, rd xs i = x := ⟨_, rfl⟩
      rw [hx] at hcell
      have hb := rd_byte xs HW.out i
      rw [hx] at hb
      obtain ⟨hb0, hb1⟩ := hb
      obtain ⟨x, rfl⟩ := Int.eq_ofNat_of_zero_le hb0
      have HX := Aside0.mk hx
      clear hx hb0
      have hv0 := Aside0.mk (xor_u32 v x HV.out (by omega))
      have hv1 := Aside0.mk (Nat.xor_lt_two_pow (n := 32) (x := v) (y := x) (by have := HV.out; omega) (by omega))
      obtain ⟨v0, hv2⟩ : ∃ v0, v ^^^ x = v0 := ⟨_, rfl⟩
      have HV2 := Aside0.mk hv2
      rw [hv2] at hv0 hv1
      clear hv2
      go_wp2_with fail
      go_loop [5, 7] (fun t u => ∃ (y j : Nat), t = .int .u32 (y : Int) ∧ u = .int .i64 (j : Int) ∧ j ≤ 8 ∧ Aside0 (y < 4294967296) ∧ Aside0 (y = steps j v0)) (fun _ u => 8 - (intOf u).toNat)
      case atStart => exact ⟨v0, 0, by rw [hv0.out], rfl, by omega, hv1, ⟨rfl⟩⟩
      case round =>
        obtain ⟨y, j, rfl, rfl, hj, HY, HJ⟩ := hrel
        have hwr : IntKind.u32.wrap ((y : Int) / 2) = (y : Int) / 2 := by rw [wrap_u32']; have := HY.out; omega
        by_cases hlt2 : j < 8
        · by_cases ho : y % 2 = 1
          · have ho' : ((y : Int) % 2 == 1) = true := by rw [beq_iff_eq]; omega
            have hs := Aside0.mk (xor_u32 (y / 2) 3988292384 (by have := HY.out; omega) (by omega))
            have HO := Aside0.mk ho
            clear ho
            go_wp2
            go_round
            case rel =>
              refine ⟨step y, j + 1, ?_, by go_num, by omega, ⟨step_lt y HY.out⟩, ⟨by rw [steps_succ, HJ.out]⟩⟩
              have h1 : step y = y / 2 ^^^ 3988292384 := by unfold step; rw [if_pos HO.out]
              rw [h1, ← hs.out]
              rfl
            case measure => simp [intOf]; omega
          · have ho' : ((y : Int) % 2 == 1) = false := by rw [beq_eq_false_iff_ne]; omega
            have HO := Aside0.mk ho
            clear ho
            go_wp2
            go_round
            case rel =>
              refine ⟨step y, j + 1, ?_, by go_num, by omega, ⟨step_lt y HY.out⟩, ⟨by rw [steps_succ, HJ.out]⟩⟩
              have h1 : step y = y / 2 := by unfold step; rw [if_neg HO.out]
              rw [h1]
              rfl
            case measure => simp [intOf]; omega
        · go_wp2
          go_round
          case rel =>
            refine ⟨y, i + 1, rfl, by go_num, by omega, HY, ⟨?_⟩⟩
            rw [HJ.out, take_rd xs i (by have := HN.out; omega), reg_append, ← HG.out, HX.out]
            have : j = 8 := by omega
            rw [this, ← HV2.out]
            rfl
          case measure => simp [intOf]; omega
    · go_wp2
      go_ret
      refine ⟨?_, rfl⟩
      have : crcF s xs = inv32 v := by
        unfold crcF
        rw [HG.out, List.take_of_length_le (by have := HN.out; omega)]
      rw [this, ← not_u32' v HV.out]
      rfl

theorem rmore_new (A : Option Addr) (n c : Nat) (s : Int) (xs : List Int) (w : World) (hn : n = xs.length) (hr : ReadsInt w .u8 A n xs) (h0 : 0 ≤ s) (hs : s < 4294967296) (hw : ∀ x ∈ xs, 0 ≤ x ∧ x ≤ 255) :
    Calls Tryd.prog 24 #[.int .u32 s, .slice A n c] w fun e w' => ∃ r : Int, e = .returned (.int .u32 r) ∧ Aside0 (r = (crcF s.toNat xs : Nat)) ∧ w = w' := by
  obtain ⟨m, rfl⟩ := Int.eq_ofNat_of_zero_le h0
  exact (rmore_any A n c m xs w hn hr (by omega) hw).mono fun _ _ ⟨h1, h2⟩ => ⟨_, h1, ⟨by rw [Int.toNat_natCast]⟩, h2⟩
end Go.Proofs.YtabcaeckoghmpaaDoor
