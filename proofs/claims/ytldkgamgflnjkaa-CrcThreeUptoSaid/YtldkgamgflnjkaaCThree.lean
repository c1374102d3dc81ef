/- The law CrcThree's walk, of slices that are not too long for one behind the other. -/
import Derived.Test.YtldkgamgflnjkaaCAwake
namespace Go.Proofs.Ytldkgamgflnjkaa
set_option linter.unusedVariables false
set_option linter.unusedSimpArgs false
open Go.RowKit Go.Proofs.YtldkgamgflnjkaaW.PrintWords

set_option maxHeartbeats 800000 in
theorem crcthree_walk (A0 : Option Addr) (c0 : Nat) (xs : List Int) (A1 : Option Addr) (c1 : Nat) (ys : List Int) (A2 : Option Addr) (c2 : Nat) (zs : List Int) (w : World)
    (hr : ReadsInt w .u8 A0 xs.length xs) (hc : xs.length ≤ c0) (hl : xs.length ≤ 1048576) (hw : ∀ x ∈ xs, 0 ≤ x ∧ x ≤ 255)
    (hr1 : ReadsInt w .u8 A1 ys.length ys) (hc1 : ys.length ≤ c1) (hl1 : ys.length ≤ 1048576) (hw1 : ∀ x ∈ ys, 0 ≤ x ∧ x ≤ 255)
    (hr2 : ReadsInt w .u8 A2 zs.length zs) (hc2 : zs.length ≤ c2) (hl2 : zs.length ≤ 1048576) (hw2 : ∀ x ∈ zs, 0 ≤ x ∧ x ≤ 255) :
    Calls Try.prog 7 #[.slice A0 xs.length c0, .slice A1 ys.length c1, .slice A2 zs.length c2] w fun e w' => e = .returned (.bool true) ∧ Below w.heap.size w w' := by
  have HX := Aside0.mk hr; have HXW := Aside0.mk hw
  have HY := Aside0.mk hr1; have HYW := Aside0.mk hw1
  have HZ := Aside0.mk hr2; have HZW := Aside0.mk hw2
  have L : ∀ s l, 0 ≤ ((crcF s l : Nat) : Int) ∧ ((crcF s l : Nat) : Int) < 4294967296 := fun s l => by have := crcF_lt s l; omega
  have LL := Aside0.mk L
  clear hr hw hr1 hw1 hr2 hw2 L
  go_enter Try.func7, Try.ntmps7
  go_wp2_with fail
  refine (cof_new A0 _ c0 xs _ rfl HX.out HXW.out).mono ?_
  rintro e w1 ⟨r1, rfl, h1, rfl⟩
  go_wp2_with fail
  refine (cmore_new A1 _ c1 r1 ys _ rfl HY.out (by rw [h1.out]; exact (LL.out _ _).1) (by rw [h1.out]; exact (LL.out _ _).2) HYW.out).mono ?_
  rintro e w1 ⟨r2, rfl, h2, rfl⟩
  go_wp2_with fail
  refine (cmore_new A2 _ c2 r2 zs _ rfl HZ.out (by rw [h2.out]; exact (LL.out _ _).1) (by rw [h2.out]; exact (LL.out _ _).2) HZW.out).mono ?_
  rintro e w1 ⟨r3, rfl, h3, rfl⟩
  go_wp2_with fail
  refine (cof_new A0 _ c0 xs _ rfl HX.out HXW.out).mono ?_
  rintro e w1 ⟨r4, rfl, h4, rfl⟩
  go_wp2_with fail
  refine (bytes_new A1 _ c1 ys _ rfl HY.out (by omega)).mono ?_
  rintro e w1 ⟨v1, rfl, ho1, hB1⟩
  go_wp2_with (at_builtin; go_must (refine print_append_row (w0 := w) w.heap.size rfl _ _ 23 5 .u8 1 rfl Try.underlying23 info5 (by omega) v1 ys zs A2 _ _ rfl rfl (by exact ho1.out) (by exact HZ.out.below hB1.out) (by exact hB1.out) hB1.out.size (by omega) ?_); rintro v2 w2 ho2 hb2 _ _; obtain ⟨t2, ht2⟩ : ∃ t, ys ++ zs = t := ⟨_, rfl⟩; rw [ht2] at ho2; obtain ⟨A4, c4, rfl, hr4⟩ := own_reads ho2; have HT2 := Aside0.mk ht2; have HR4 := Aside0.mk hr4; have HB2 := Aside0.mk hb2; clear ht2 hr4 ho2 hb2)
  refine (cmore_new A4 _ c4 r4 t2 _ rfl HR4.out (by rw [h4.out]; exact (LL.out _ _).1) (by rw [h4.out]; exact (LL.out _ _).2) ?_).mono ?_
  · intro x hx
    rw [← HT2.out] at hx
    rcases List.mem_append.1 hx with hx | hx
    · exact HYW.out x hx
    · exact HZW.out x hx
  rintro e w3 ⟨r5, rfl, h5, rfl⟩
  go_wp2_with fail
  refine (bytes_new A0 _ c0 xs _ rfl (HX.out.below HB2.out) (by omega)).mono ?_
  rintro e w3 ⟨v3, rfl, ho3, hB3⟩
  have HB3 := Aside0.mk (HB2.out.trans (hB3.out.mono HB2.out.size))
  have HO3 := Aside0.mk (own_less ho3.out HB2.out.size)
  go_wp2_with (first
    | (at_builtin; with_reducible refine print_append_row (w0 := w) w.heap.size rfl (.tmp 24) (.tmp 25) 23 5 .u8 1 rfl Try.underlying23 info5 (by omega) v3 xs ys A1 _ _ rfl rfl (by exact HO3.out) (by exact HY.out.below HB3.out) (by exact HB3.out) HB3.out.size (by omega) ?_; rintro v5 w5 ho5 hb5 _ _; have HO5 := Aside0.mk ho5; have HB5 := Aside0.mk hb5; clear ho5 hb5)
    | (at_builtin; go_must (refine print_append_row (w0 := w) w.heap.size rfl (.tmp 26) (.tmp 27) 23 5 .u8 1 rfl Try.underlying23 info5 (by omega) _ (xs ++ ys) zs A2 _ _ rfl rfl (by exact HO5.out) (by exact HZ.out.below HB5.out) (by exact HB5.out) HB5.out.size (by simp only [List.length_append]; omega) ?_); rintro v6 w6 ho6 hb6 _ _; obtain ⟨t6, ht6⟩ : ∃ t, xs ++ ys ++ zs = t := ⟨_, rfl⟩; rw [ht6] at ho6; obtain ⟨A6, c6, rfl, hr6⟩ := own_reads ho6; have HT6 := Aside0.mk ht6; have HR6 := Aside0.mk hr6; have HB6 := Aside0.mk hb6; clear ht6 hr6 ho6 hb6)
    | fail)
  refine (cof_new A6 _ c6 t6 _ rfl HR6.out ?_).mono ?_
  · intro x hx
    rw [← HT6.out] at hx
    simp only [List.mem_append] at hx
    rcases hx with (hx | hx) | hx
    · exact HXW.out x hx
    · exact HYW.out x hx
    · exact HZW.out x hx
  rintro e w7 ⟨r7, rfl, h7, rfl⟩
  have hxy : ∀ x ∈ xs ++ ys, 0 ≤ x ∧ x ≤ 255 := by
    intro x hx
    rcases List.mem_append.1 hx with hx | hx
    · exact HXW.out x hx
    · exact HYW.out x hx
  have e1 : (r3 == r5) = true := by
    rw [beq_iff_eq, h3.out, h5.out, h2.out, h4.out, h1.out]
    simp only [Int.toNat_natCast]
    rw [← HT2.out, crcF_append _ _ HYW.out]
  have e2 : (r5 == r7) = true := by
    rw [beq_iff_eq, h5.out, h7.out, h4.out]
    simp only [Int.toNat_natCast]
    rw [← HT2.out, ← HT6.out, crcF_append _ _ HYW.out, crcF_append _ _ hxy, crcF_append _ _ HXW.out]
  clear hxy
  go_wp2_with fail
  refine (awake_any _).mono ?_
  rintro e w8 ⟨rfl, hB8⟩
  have HB8 := Aside0.mk hB8
  clear hB8
  go_wp2
  go_ret
  exact ⟨rfl, HB6.out.trans (HB8.out.mono HB6.out.size)⟩
end Go.Proofs.Ytldkgamgflnjkaa
