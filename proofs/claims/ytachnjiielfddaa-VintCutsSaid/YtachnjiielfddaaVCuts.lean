/- The law VintCuts' walk. -/
import Derived.Test.YtachnjiielfddaaVAwake
import Derived.Test.YtachnjiielfddaaVPure
namespace Go.Proofs.Ytachnjiielfddaa
set_option linter.unusedVariables false
set_option linter.unusedSimpArgs false
open Go.RowKit Go.Proofs.YtachnjiielfddaaW.PrintWords

theorem tmod_lo (a : Int) (n : Nat) (h : 0 < n) : -(n : Int) < a.tmod n := by
  rcases Int.lt_or_le a 0 with h1 | h1
  · have h2 := Int.tmod_lt_of_pos (-a) (show (0 : Int) < n by omega)
    rw [Int.neg_tmod] at h2
    omega
  · have := Int.tmod_nonneg (n : Int) h1
    omega

set_option maxHeartbeats 800000 in
theorem cuts_walk (a0 a1 : Int) (w : World) (h0 : 0 ≤ a0 ∧ a0 ≤ 18446744073709551615) (h1 : -9223372036854775808 ≤ a1 ∧ a1 ≤ 9223372036854775807) :
    Calls Try.prog 4 #[.int .u64 a0, .int .i64 a1] w fun e w' => e = .returned (.bool true) ∧ Below w.heap.size w w' := by
  obtain ⟨v, rfl⟩ := Int.eq_ofNat_of_zero_le h0.1
  have Hv := Aside0.mk (show v < 18446744073709551616 by omega)
  have Hb := Aside0.mk h1
  clear h0 h1
  go_enter Try.func4, Try.ntmps4
  go_wp2_with fail
  refine (vput_new none 0 [] v _ (nilReads _ _) (by decide) Hv.out (by decide)).mono ?_
  rintro e w1 ⟨v', zs, rfl, hz, ho, hB1⟩
  obtain ⟨A, c, rfl, hr⟩ := own_reads ho.out
  have hzl : zs.length = (enc 10 v).length := by rw [hz.out]; rfl
  have hzp : 0 < zs.length := by rw [hzl]; exact enc_length_pos 9 v
  have hzn : zs.length ≤ 10 := by rw [hzl]; exact enc_length_le 10 v
  have hz0 : ((zs.length : Int) == 0) = false := by rw [beq_eq_false_iff_ne]; omega
  clear hzl
  have HR := Aside0.mk hr
  clear hr
  obtain ⟨i0, hi, _, hsz, _⟩ := info_parts info5
  obtain ⟨t, ht⟩ : ∃ t, a1.tmod zs.length = t := ⟨_, rfl⟩
  have ht1 : t < zs.length := by rw [← ht]; exact Int.tmod_lt_of_pos _ (by omega)
  have ht2 : -(zs.length : Int) < t := by rw [← ht]; exact tmod_lo _ _ hzp
  obtain ⟨j, hj⟩ : ∃ j : Nat, (t < 0 ∧ (j : Int) = t + zs.length) ∨ (0 ≤ t ∧ (j : Int) = t) := by
    rcases Int.lt_or_le t 0 with h | h
    · exact ⟨(t + zs.length).toNat, .inl ⟨h, by omega⟩⟩
    · exact ⟨t.toNat, .inr ⟨h, by omega⟩⟩
  have hjl : j < zs.length := by omega
  obtain ⟨hcut, hrt⟩ := take_int (P := Try.prog) (k := .u8) 27 5 Try.underlying27 hi hsz A c zs j (by omega) (own_le ho.out)
  have HT := Aside0.mk (hrt _ HR.out)
  have Hj := Aside0.mk hjl
  clear hrt hi hsz
  rcases hj with ⟨hneg, hj⟩ | ⟨hneg, hj⟩
  all_goals
    first
    | have hcut' := fun W => hcut W (t + zs.length) (by omega)
    | have hcut' := fun W => hcut W t (by omega)
    clear hcut hj
    go_wp2_with fail
    refine (vget_new A j c (zs.take j) 0 _ (by simp; omega) HT.out (by have := own_le ho.out; omega) (fun x hx => enc_bytes 10 v x (by have := List.mem_of_mem_take hx; rw [hz.out] at this; simpa using this))).mono ?_
    rintro e w2 ⟨r1, r2, r3, rfl, hg, rfl⟩
    have hg3 : r3 = 2 := by
      have := hg.out
      rw [getF_zero] at this
      simp only [hz.out, List.nil_append] at this
      rw [getL_cut 0 10 v 0 j 0 (by omega) (by have := Hv.out; omega) (by have := Hj.out; rw [hz.out] at this; simpa using this)] at this
      simp at this
      omega
    subst hg3
    go_wp2_with (first
      | (at_builtin; with_reducible refine print_append_row (w0 := w) w.heap.size rfl (.const (.slice none 0 0)) (.tmp 37) 27 5 .u8 1 rfl Try.underlying27 info5 (by omega) (.slice none 0 0) [] zs _ _ _ rfl rfl (own_nil _ _ _ _) (by exact HR.out) (by exact hB1.out) hB1.out.size (by simp; omega) ?_; rintro v2 w2 ho2 hb2 hg2 hat; simp only [List.nil_append] at ho2; obtain ⟨g, cap, rfl, hgb, hgl⟩ := ho2.form hzp; have hca := own_at ho2 ((zs.length - 1 : Nat) : Int) (by omega) (by omega); have hst := own_store ho2 ((zs.length - 1 : Nat) : Int) (Go.bits .or .u8 (rd zs ((zs.length - 1 : Nat) : Int)) 128); rw [Int.toNat_natCast] at hca hst; obtain ⟨hca, hfa⟩ := hca; have HST := Aside0.mk hst.1; have HO2 := Aside0.mk ho2; have HB2 := Aside0.mk hb2; clear ho2 hb2 hg2 hat hst)
      | (at_builtin; go_must (refine print_append_num (w0 := w) w.heap.size rfl (.tmp 47) (.tmp 48) 27 5 .u8 1 rfl Try.underlying27 info5 (by omega) _ (zs.set (zs.length - 1) (Go.bits .or .u8 (rd zs ((zs.length - 1 : Nat) : Int)) 128)) 0 rfl (by simp [Act.eval]) (by rw [List.length_set]; exact HST.out) (by exact HB2.out.setCell hgb _) (by have := HB2.out.size; simp; omega) (by simp; omega) ?_); rintro v3 w3 ho3 hb3 hg3 hat; simp only [List.length_append, List.length_set, List.length_singleton] at ho3; obtain ⟨A3, c3, rfl, hr3⟩ := own_reads ho3; have HR3 := Aside0.mk hr3; have HO3 := Aside0.mk ho3; have HB3 := Aside0.mk hb3; clear ho3 hb3 hg3 hat hr3)
      | fail)
    refine (vget_new A3 (zs.length + 1) c3 _ 0 _ (by simp) HR3.out (own_le HO3.out) ?_).mono ?_
    · intro x hx
      rw [hz.out, List.nil_append] at hx
      rcases List.mem_append.1 hx with hx | hx
      · rcases List.mem_or_eq_of_mem_set hx with hx | rfl
        · exact enc_bytes 10 v x hx
        · simp only [rd, Int.toNat_natCast]
          rw [or128' _ (getD_byte _ (enc_bytes 10 v) _).1 (getD_byte _ (enc_bytes 10 v) _).2]
          omega
      · simp at hx
        omega
    rintro e w4 ⟨q1, q2, q3, rfl, hq, rfl⟩
    have hq3 : q3 = 3 := by
      have := hq.out
      rw [getF_zero] at this
      simp only [hz.out, List.nil_append] at this
      simp only [rd, Int.toNat_natCast] at this
      rw [or128' _ (getD_byte _ (enc_bytes 10 v) _).1 (getD_byte _ (enc_bytes 10 v) _).2] at this
      have h2 := getL_nought 0 [] 10 v 0 0 (by omega) (by have := Hv.out; omega) (.inr rfl)
      rw [h2] at this
      simp at this
      omega
    subst hq3
    go_wp2_with fail
    refine (awake_any _).mono ?_
    rintro e w5 ⟨rfl, hB5⟩
    have HB5 := Aside0.mk hB5
    clear hB5
    go_wp2
    go_ret
    exact ⟨rfl, HB3.out.trans (HB5.out.mono HB3.out.size)⟩
end Go.Proofs.Ytachnjiielfddaa
