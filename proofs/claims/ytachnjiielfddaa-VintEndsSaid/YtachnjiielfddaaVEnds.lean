/- The law VintEnds' walk. -/
import Derived.Test.YtachnjiielfddaaVAwake
import Derived.Test.YtachnjiielfddaaVBack
namespace Go.Proofs.Ytachnjiielfddaa
set_option linter.unusedVariables false
set_option linter.unusedSimpArgs false
open Go.RowKit Go.Proofs.YtachnjiielfddaaW.PrintWords

theorem ends_lens (n : Nat) (h0 : 1 ≤ n) (h1 : n ≤ 9) : (enc 10 (128 ^ n - 1)).length = n ∧ (enc 10 (128 ^ n)).length = n + 1 := by
  have : n = 1 ∨ n = 2 ∨ n = 3 ∨ n = 4 ∨ n = 5 ∨ n = 6 ∨ n = 7 ∨ n = 8 ∨ n = 9 := by omega
  rcases this with rfl | rfl | rfl | rfl | rfl | rfl | rfl | rfl | rfl <;> decide +kernel

set_option maxHeartbeats 800000 in
theorem ends_walk (w : World) :
    Calls Try.prog 8 #[] w fun e w' => e = .returned (.bool true) ∧ Below w.heap.size w w' := by
  go_enter Try.func8, Try.ntmps8
  go_wp2_with fail
  go_loopw [1, 2] (fun t u wr => ∃ (V : Int) (n : Nat), t = .int .u64 V ∧ u = .int .i64 n ∧ 1 ≤ n ∧ n ≤ 10 ∧ Aside0 (n ≤ 9 → V = (128 ^ n - 1 : Nat)) ∧ Aside0 (Below w.heap.size w wr)) (fun _ u _ => (10 - intOf u).toNat)
  case atStart => exact ⟨127, 1, rfl, rfl, by omega, by omega, ⟨fun _ => by decide⟩, ⟨Below.refl _ _⟩⟩
  case round =>
    obtain ⟨V, n, rfl, rfl, hn0, hn1, HV, HB⟩ := hrel
    by_cases hlt : n ≤ 9
    · have hV := HV.out hlt
      have hp : 128 ^ n ≤ 2 ^ 63 := by
        rw [show (128 : Nat) = 2 ^ 7 from rfl, ← Nat.pow_mul]
        exact Nat.pow_le_pow_right (by omega) (by omega)
      have hp0 : 0 < 128 ^ n := Nat.pow_pos (by omega)
      have HVB := Aside0.mk (show 0 ≤ V ∧ V < 9223372036854775808 by omega)
      have HL := Aside0.mk (ends_lens n hn0 hlt)
      have HV2 := Aside0.mk (show V.toNat = 128 ^ n - 1 ∧ (V + 1).toNat = 128 ^ n by omega)
      have HP := Aside0.mk (show n ≤ 8 → IntKind.u64.wrap (IntKind.u64.wrap (V * 128) + 127) = ((128 ^ (n + 1) - 1 : Nat) : Int) by
        intro h8
        have hp8 : 128 ^ n ≤ 2 ^ 56 := by
          rw [show (128 : Nat) = 2 ^ 7 from rfl, ← Nat.pow_mul]
          exact Nat.pow_le_pow_right (by omega) (by omega)
        rw [IntKind.wrap_u64, IntKind.wrap_u64, Nat.pow_succ]
        omega)
      have HW := Aside0.mk (show IntKind.u64.wrap (V + 1) = V + 1 by rw [IntKind.wrap_u64]; omega)
      clear hV hp hp0
      go_wp2_with fail
      refine (vlen_new V _ HVB.out.1 (by have := HVB.out.2; omega)).mono ?_
      rintro e w1 ⟨m, rfl, hm, hB1⟩
      have hm1 : ((m : Int) != (n : Int)) = false := by rw [bne_eq_false_iff_eq, hm.out, HV2.out.1, HL.out.1]
      have hw := HW.out
      go_wp2_with fail
      refine (vlen_new (V + 1) _ (by have := HVB.out.1; omega) (by have := HVB.out.2; omega)).mono ?_
      rintro e w2 ⟨m2, rfl, hm2, hB2⟩
      have hm3 : ((m2 : Int) != (n : Int) + 1) = false := by rw [bne_eq_false_iff_eq, hm2.out, HV2.out.2, HL.out.2]; rfl
      clear hw
      go_wp2
      go_roundw
      case rel =>
        refine ⟨_, n + 1, rfl, by go_num, by omega, by omega, ⟨fun h => HP.out (by omega)⟩, ⟨?_⟩⟩
        have c1 := HB.out.trans (hB1.out.mono HB.out.size)
        exact c1.trans (hB2.out.mono c1.size)
      case measure => simp [intOf]; omega
    · have HB' := HB.out
      clear HV
      go_wp2_with fail
      refine (vput_int none 0 [] 18446744073709551615 _ (nilReads _ _) (by decide) (by omega) (by omega) (by decide)).mono ?_
      rintro e w1 ⟨v', zs, rfl, hz, ho, hB1⟩
      obtain ⟨A, c, rfl, hr⟩ := own_reads ho.out
      have HR := Aside0.mk hr
      have HB1 := Aside0.mk (HB.out.trans (hB1.out.mono HB.out.size))
      clear hr
      go_wp2_with fail
      refine (vget_new A _ c zs 0 _ rfl HR.out (own_le ho.out) (fun x hx => by rw [hz.out, List.nil_append] at hx; exact enc_bytes 10 _ x hx)).mono ?_
      rintro e w2 ⟨r1, r2, r3, rfl, hg, rfl⟩
      have hgg : r1 = 18446744073709551615 ∧ r2 = 10 ∧ r3 = 0 := by
        have := hg.out
        rw [hz.out, show getF ([] ++ enc 10 (Int.toNat 18446744073709551615)) 0 = (18446744073709551615, 10, 0) from by decide +kernel] at this
        simp only [Prod.mk.injEq] at this
        exact ⟨this.1.symm, this.2.1.symm, this.2.2.symm⟩
      obtain ⟨hr1, rfl, rfl⟩ := hgg
      have hr1' : (r1 == 18446744073709551615) = true := by rw [beq_iff_eq]; exact hr1
      clear hr1
      have h255 := Aside0.mk (own_reads' (own_lit w1 w1.heap.size 5 .u8 [255, 255, 255, 255, 255, 255, 255, 255, 255, 2] (Nat.le_refl _) (by decide)))
      go_wp2_with fail
      refine (vget_new _ 10 10 [255, 255, 255, 255, 255, 255, 255, 255, 255, 2] 0 _ rfl h255.out (by omega) (by decide)).mono ?_
      rintro e w2 ⟨q1, q2, q3, rfl, hq, rfl⟩
      have hqq : q3 = 3 := by
        have := hq.out
        rw [show getF [255, 255, 255, 255, 255, 255, 255, 255, 255, 2] 0 = (0, 0, 3) from by decide +kernel] at this
        simp only [Prod.mk.injEq] at this
        exact this.2.2.symm
      subst hqq
      obtain ⟨wa, hwa⟩ : ∃ wa, w1.alloc (.cells (nums .u8 [255, 255, 255, 255, 255, 255, 255, 255, 255, 2]).toArray 5) = wa := ⟨_, rfl⟩
      have hwa' : w1.alloc (.cells #[.int .u8 255, .int .u8 255, .int .u8 255, .int .u8 255, .int .u8 255, .int .u8 255, .int .u8 255, .int .u8 255, .int .u8 255, .int .u8 2] 5) = wa := hwa
      have HBa := Aside0.mk (show Below w.heap.size w wa by rw [← hwa]; exact HB1.out.alloc HB1.out.size _)
      have h128 := Aside0.mk (own_reads' (own_lit wa wa.heap.size 5 .u8 [128, 0] (Nat.le_refl _) (by decide)))
      rw [hwa]
      clear hwa hwa'
      go_wp2_with fail
      refine (vget_new _ 2 2 [128, 0] 0 _ rfl h128.out (by omega) (by decide)).mono ?_
      rintro e w2 ⟨p1, p2, p3, rfl, hp, rfl⟩
      have hpp : p3 = 3 := by
        have := hp.out
        rw [show getF [128, 0] 0 = (0, 0, 3) from by decide +kernel] at this
        simp only [Prod.mk.injEq] at this
        exact this.2.2.symm
      subst hpp
      go_wp2_with fail
      refine (vzig_new _ _ (by omega) (by omega)).mono ?_
      rintro e w2 ⟨z1, rfl, hz1, rfl⟩
      have hz1' : (z1 == 18446744073709551615) = true := by rw [beq_iff_eq, hz1.out]; decide
      go_wp2_with fail
      refine (vzag_new _ _ (by omega) (by omega)).mono ?_
      rintro e w2 ⟨z2, rfl, hz2, rfl⟩
      have hz2' : (z2 == -9223372036854775808) = true := by rw [beq_iff_eq, hz2.out]; decide
      go_wp2_with fail
      refine (vzig_new _ _ (by omega) (by omega)).mono ?_
      rintro e w2 ⟨z3, rfl, hz3, rfl⟩
      have hz3' : (z3 == 18446744073709551614) = true := by rw [beq_iff_eq, hz3.out]; decide
      go_wp2_with fail
      refine (awake_any _).mono ?_
      rintro e w6 ⟨rfl, hB6⟩
      have HB6 := Aside0.mk hB6
      clear hB6
      go_wp2
      go_ret
      have c1 : Below w.heap.size w (wa.alloc (.cells (nums .u8 [128, 0]).toArray 5)) := HBa.out.alloc HBa.out.size _
      exact ⟨rfl, c1.trans (HB6.out.mono c1.size)⟩
end Go.Proofs.Ytachnjiielfddaa
