/- The law VintBack's walk. -/
import Derived.Test.YtachnjiielfddaaVAwake
import Derived.Test.YtachnjiielfddaaVPure
namespace Go.Proofs.Ytachnjiielfddaa
set_option linter.unusedVariables false
set_option linter.unusedSimpArgs false
open Go.RowKit Go.Proofs.YtachnjiielfddaaW.PrintWords

theorem zag_zig (n : Int) : zagF (zigF n) = n := by unfold zagF zigF; split <;> split <;> omega
theorem zig_zag (v : Int) (h : 0 ≤ v) : zigF (zagF v) = v := by unfold zagF zigF; split <;> split <;> omega
theorem zig_range (n : Int) (h0 : -9223372036854775808 ≤ n) (h1 : n ≤ 9223372036854775807) : 0 ≤ zigF n ∧ zigF n < 18446744073709551616 := by unfold zigF; split <;> omega
theorem zag_range (v : Int) (h0 : 0 ≤ v) (h1 : v < 18446744073709551616) : -9223372036854775808 ≤ zagF v ∧ zagF v ≤ 9223372036854775807 := by unfold zagF; split <;> omega

set_option maxHeartbeats 800000 in
theorem back_walk (a0 a1 : Int) (A2 : Option Addr) (c2 : Nat) (ys : List Int) (w : World) (h0 : 0 ≤ a0 ∧ a0 ≤ 18446744073709551615) (h1 : -9223372036854775808 ≤ a1 ∧ a1 ≤ 9223372036854775807)
    (hr2 : ReadsInt w .u8 A2 ys.length ys) (hc2 : ys.length ≤ c2) (hl2 : ys.length * 1 ≤ 140737488351232) (hw2 : ∀ x ∈ ys, 0 ≤ x ∧ x ≤ 255) :
    Calls Try.prog 7 #[.int .u64 a0, .int .i64 a1, .slice A2 ys.length c2] w fun e w' => e = .returned (.bool true) ∧ Below w.heap.size w w' := by
  obtain ⟨v, rfl⟩ := Int.eq_ofNat_of_zero_le h0.1
  have Hv := Aside0.mk (show v < 18446744073709551616 by omega)
  have Hn := Aside0.mk h1
  have HY := Aside0.mk hr2
  have HW := Aside0.mk hw2
  have hw7 := Aside0.mk (Below.alloc (Below.refl w.heap.size w) (Nat.le_refl _) (.cells #[.int .u8 7] 5))
  have hr7 : Aside0 (ReadsInt (w.alloc (.cells #[.int .u8 7] 5)) .u8 (some ⟨w.heap.size, 0, none⟩) [(7 : Int)].length [7]) := by
    obtain ⟨A, c, h, hr⟩ := own_reads (own_lit w w.heap.size 5 .u8 [7] (Nat.le_refl _) (by decide))
    cases h
    exact ⟨hr⟩
  clear h0 h1 hr2 hw2
  go_enter Try.func7, Try.ntmps7
  go_wp2_with fail
  refine (vput_new _ 1 [7] v _ hr7.out (by decide) Hv.out (by decide)).mono ?_
  rintro e w1 ⟨v', zs, rfl, hz, ho, hB1⟩
  obtain ⟨A, c, rfl, hr⟩ := own_reads ho.out
  have hzl : zs.length = (enc 10 v).length + 1 := by rw [hz.out]; simp
  have hzn : zs.length ≤ 11 := by rw [hzl]; have := enc_length_le 10 v; omega
  have HZL := Aside0.mk hzl
  have HR := Aside0.mk hr
  have HB1 := Aside0.mk (hw7.out.trans (hB1.out.mono (by simp)))
  clear hr hzl
  go_wp2_with (first
    | (at_builtin; with_reducible refine print_append_row (w0 := w) w.heap.size rfl (.const (.slice none 0 0)) (.tmp 15) 27 5 .u8 1 rfl Try.underlying27 info5 (by omega) (.slice none 0 0) [] zs _ _ _ rfl rfl (own_nil _ _ _ _) (by exact HR.out) (by exact HB1.out) HB1.out.size (by simp; omega) ?_; rintro v2 w2 ho2 hb2 hg2 hat; simp only [List.nil_append] at ho2; have HO2 := Aside0.mk ho2; have HB2 := Aside0.mk hb2; clear ho2 hb2 hg2 hat)
    | (at_builtin; go_must (refine print_append_row (w0 := w) w.heap.size rfl (.tmp 16) (.tmp 17) 27 5 .u8 1 rfl Try.underlying27 info5 (by omega) _ zs ys _ _ _ rfl rfl HO2.out (by exact HY.out.below (HB2.out.mono (by omega))) (by exact HB2.out) HB2.out.size (by omega) ?_); rintro v3 w3 ho3 hb3 hg3 hat; obtain ⟨ts, hts⟩ : ∃ ts, zs ++ ys = ts := ⟨_, rfl⟩; rw [hts] at ho3; obtain ⟨A3, c3, rfl, hr3⟩ := own_reads ho3; have HTS := Aside0.mk hts; have HR3 := Aside0.mk hr3; have HO3 := Aside0.mk ho3; have HB3 := Aside0.mk hb3; clear ho3 hb3 hg3 hat hr3 hts)
    | fail)
  refine (vget_new A3 _ c3 ts 1 _ rfl HR3.out (own_le HO3.out) ?_).mono ?_
  · intro x hx
    rw [← HTS.out, hz.out] at hx
    simp only [List.append_assoc, List.mem_append] at hx
    rcases hx with hx | hx | hx
    · simp at hx
      omega
    · exact enc_bytes 10 v x hx
    · exact HW.out x hx
  rintro e w4 ⟨r1, r2, r3, rfl, hg, rfl⟩
  have hr : r1 = (v : Int) ∧ r2 = (zs.length : Int) ∧ r3 = 0 := by
    have := hg.out
    rw [← HTS.out, hz.out, List.append_assoc] at this
    have h2 := getF_enc [7] ys v (by have := Hv.out; omega)
    have h3 : ((([7] : List Int).length : Nat) : Int) = 1 := rfl
    rw [h3] at h2
    rw [h2] at this
    simp only [Prod.mk.injEq] at this
    obtain ⟨e1, e2, e3⟩ := this
    refine ⟨e1.symm, ?_, e3.symm⟩
    rw [← e2, HZL.out]
    simp
    omega
  obtain ⟨rfl, rfl, rfl⟩ := hr
  go_wp2_with fail
  refine (vzig_new a1 _ Hn.out.1 Hn.out.2).mono ?_
  rintro e w5 ⟨z, rfl, hz1, rfl⟩
  go_wp2_with fail
  refine (vzag_new z _ (by rw [hz1.out]; exact (zig_range _ Hn.out.1 Hn.out.2).1) (by rw [hz1.out]; exact (zig_range _ Hn.out.1 Hn.out.2).2)).mono ?_
  rintro e w5 ⟨z2, rfl, hz2, rfl⟩
  have hzz : (z2 == a1) = true := by rw [beq_iff_eq, hz2.out, hz1.out, zag_zig]
  go_wp2_with fail
  refine (vzag_new v _ (by omega) (by have := Hv.out; omega)).mono ?_
  rintro e w5 ⟨z3, rfl, hz3, rfl⟩
  have hz3r : -9223372036854775808 ≤ z3 ∧ z3 ≤ 9223372036854775807 := by rw [hz3.out]; exact zag_range _ (by omega) (by have := Hv.out; omega)
  have HZ3 := Aside0.mk hz3r
  clear hz3r
  go_wp2_with fail
  refine (vzig_new z3 _ HZ3.out.1 HZ3.out.2).mono ?_
  rintro e w5 ⟨z4, rfl, hz4, rfl⟩
  have hz44 : (z4 == (v : Int)) = true := by rw [beq_iff_eq, hz4.out, hz3.out, zig_zag _ (by omega)]
  go_wp2_with fail
  refine (vlen_new v _ (by omega) (by have := Hv.out; omega)).mono ?_
  rintro e w5 ⟨n, rfl, hn, hB5⟩
  have hn2 : ((zs.length : Int) == 1 + (n : Int)) = true := by
    rw [beq_iff_eq, HZL.out, hn.out, Int.toNat_natCast]
    omega
  have hn3 : n ≤ 10 := by rw [hn.out]; exact enc_length_le 10 _
  go_wp2_with fail
  refine (awake_any _).mono ?_
  rintro e w6 ⟨rfl, hB6⟩
  have HB6 := Aside0.mk hB6
  clear hB6
  go_wp2
  go_ret
  refine ⟨rfl, ?_⟩
  have c1 := HB3.out.trans (hB5.out.mono HB3.out.size)
  exact c1.trans (HB6.out.mono c1.size)
end Go.Proofs.Ytachnjiielfddaa
