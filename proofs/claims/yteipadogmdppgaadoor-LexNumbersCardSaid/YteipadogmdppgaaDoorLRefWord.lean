/- The reference's word. -/
import Derived.Test.YteipadogmdppgaaDoorLAwake
import Derived.Test.YteipadogmdppgaaDoorRRefWalk
import Derived.Test.YteipadogmdppgaaDoorRRefLetter
namespace Go.Proofs.YteipadogmdppgaaDoor
set_option linter.unusedVariables false
set_option linter.unusedSimpArgs false
open Go.RowKit Go.Proofs.YteipadogmdppgaaDoorW.PrintWords

theorem nextG_over (s : ByteArray) (p : Nat) (hp : ¬ p < s.size) : nextG s (p : Int) = (0, 0, false) := by
  rw [nextG, if_pos (.inr (by omega))]

set_option maxRecDepth 100000 in
set_option maxHeartbeats 1000000 in
theorem rword_digits (s : ByteArray) (p n : Nat) (w : World) (hs : s.size ≤ 16384) (hp : p ≤ s.size) (hn : Aside0 (runA dgF ((bs s).drop p) = n)) :
    Calls Tryd.prog 27 #[.string s, .int .i64 (p : Int), .bool true] w fun e w' => e = .returned (.int .i64 ((p + n : Nat) : Int)) ∧ w = w' := by
  obtain ⟨m, hm⟩ : ∃ m, p + n = m := ⟨_, rfl⟩
  rw [hm]
  have HM := Aside0.mk hm
  clear hm
  go_enter Tryd.func27, Tryd.ntmps27
  go_wp2_with fail
  go_loop [1] (fun t => ∃ q : Nat, t = .int .i64 (q : Int) ∧ q ≤ s.size ∧ Aside0 (q + runA dgF ((bs s).drop q) = m)) (fun t => s.size - (intOf t).toNat)
  case atStart => exact ⟨p, rfl, hp, ⟨by rw [hn.out, HM.out]⟩⟩
  case round =>
    obtain ⟨q, rfl, hq, HV⟩ := hrel
    by_cases hlt : q < s.size
    · obtain ⟨r, d, hd⟩ : ∃ r d, Utf8.decode s q = (r, d) := ⟨_, _, rfl⟩
      have hn1 := dec_pos s q hlt
      have hn2 := dec_le s q hlt
      rw [hd] at hn1 hn2
      simp only at hn1 hn2
      have hst := HV.out
      rw [runA_step _ _ (by intro e; have := congrArg List.length e; rw [List.length_drop, bs_length] at this; simp at this; omega), ← dec_dL, hd] at hst
      simp only [List.drop_drop] at hst
      by_cases c1 : r = 65533 ∧ d < 2
      · have HG := Aside0.mk (nextG_err s q hlt (by rw [hd]; exact c1))
        have hqm : m = q := by rw [← hst, c1.1, if_neg (by decide)]; rfl
        subst hqm
        clear c1 hst hd
        go_wp2_with fail
        refine (rnext_at s (m : Int) _ (by omega) 0 0 false HG).mono ?_
        rintro e w1 ⟨rfl, rfl⟩
        go_wp2
        go_ret
        exact ⟨rfl, rfl⟩
      · have HG : Aside0 (nextG s (q : Int) = (r, d, true)) := ⟨by rw [nextG_fine s q hlt (by rw [hd]; exact c1), hd]⟩
        clear c1 hd
        cases hg : digitF (r : Int)
        · have HD : Aside0 (digitF (r : Int) = false) := ⟨hg⟩
          have hqm : m = q := by rw [← hst, if_neg (by rw [show dgF r = false from hg]; decide)]; rfl
          subst hqm
          clear hst
          go_wp2_with fail
          refine (rnext_at s (m : Int) _ (by omega) r d true HG).mono ?_
          rintro e w1 ⟨rfl, rfl⟩
          go_wp2_with fail
          refine (rdigit_any (r : Int) _ false HD).mono ?_
          rintro e w1 ⟨rfl, rfl⟩
          go_wp2
          go_ret
          exact ⟨rfl, rfl⟩
        · have HD : Aside0 (digitF (r : Int) = true) := ⟨hg⟩
          have HST2 : Aside0 (q + d + runA dgF ((bs s).drop (q + d)) = m) := ⟨by rw [← hst, if_pos (show dgF r = true from hg)]; omega⟩
          clear hst
          go_wp2_with fail
          refine (rnext_at s (q : Int) _ (by omega) r d true HG).mono ?_
          rintro e w1 ⟨rfl, rfl⟩
          go_wp2_with fail
          refine (rdigit_any (r : Int) _ true HD).mono ?_
          rintro e w1 ⟨rfl, rfl⟩
          go_wp2
          go_round
          case rel => exact ⟨q + d, by go_num, by omega, HST2⟩
          case measure => simp [intOf]; omega
    · have HG := Aside0.mk (nextG_over s q hlt)
      have hqm : m = q := by
        have := HV.out
        rw [List.drop_eq_nil_of_le (by rw [bs_length]; omega), runA_nil] at this
        omega
      subst hqm
      go_wp2_with fail
      refine (rnext_at s (m : Int) _ (by omega) 0 0 false HG).mono ?_
      rintro e w1 ⟨rfl, rfl⟩
      go_wp2
      go_ret
      exact ⟨rfl, rfl⟩

set_option maxRecDepth 100000 in
set_option maxHeartbeats 1000000 in
theorem rword_part (s : ByteArray) (p n : Nat) (w : World) (hs : s.size ≤ 16384) (hp : p ≤ s.size) (hn : Aside0 (runA partF ((bs s).drop p) = n)) :
    Calls Tryd.prog 27 #[.string s, .int .i64 (p : Int), .bool false] w fun e w' => e = .returned (.int .i64 ((p + n : Nat) : Int)) ∧ w = w' := by
  obtain ⟨m, hm⟩ : ∃ m, p + n = m := ⟨_, rfl⟩
  rw [hm]
  have HM := Aside0.mk hm
  clear hm
  go_enter Tryd.func27, Tryd.ntmps27
  go_wp2_with fail
  go_loop [1] (fun t => ∃ q : Nat, t = .int .i64 (q : Int) ∧ q ≤ s.size ∧ Aside0 (q + runA partF ((bs s).drop q) = m)) (fun t => s.size - (intOf t).toNat)
  case atStart => exact ⟨p, rfl, hp, ⟨by rw [hn.out, HM.out]⟩⟩
  case round =>
    obtain ⟨q, rfl, hq, HV⟩ := hrel
    by_cases hlt : q < s.size
    · obtain ⟨r, d, hd⟩ : ∃ r d, Utf8.decode s q = (r, d) := ⟨_, _, rfl⟩
      have hn1 := dec_pos s q hlt
      have hn2 := dec_le s q hlt
      rw [hd] at hn1 hn2
      simp only at hn1 hn2
      have hst := HV.out
      rw [runA_step _ _ (by intro e; have := congrArg List.length e; rw [List.length_drop, bs_length] at this; simp at this; omega), ← dec_dL, hd] at hst
      simp only [List.drop_drop] at hst
      by_cases c1 : r = 65533 ∧ d < 2
      · have HG := Aside0.mk (nextG_err s q hlt (by rw [hd]; exact c1))
        have hqm : m = q := by rw [← hst, c1.1, if_neg (by decide)]; rfl
        subst hqm
        clear c1 hst hd
        go_wp2_with fail
        refine (rnext_at s (m : Int) _ (by omega) 0 0 false HG).mono ?_
        rintro e w1 ⟨rfl, rfl⟩
        go_wp2
        go_ret
        exact ⟨rfl, rfl⟩
      · have HG : Aside0 (nextG s (q : Int) = (r, d, true)) := ⟨by rw [nextG_fine s q hlt (by rw [hd]; exact c1), hd]⟩
        clear c1 hd
        cases hg : digitF (r : Int)
        · cases hl : letterF (r : Int)
          · have HD := Aside0.mk hg
            have HE := Aside0.mk hl
            have hqm : m = q := by rw [← hst, if_neg (by rw [partF, hl, hg]; decide)]; rfl
            subst hqm
            clear hst
            go_wp2_with fail
            refine (rnext_at s (m : Int) _ (by omega) r d true HG).mono ?_
            rintro e w1 ⟨rfl, rfl⟩
            go_wp2_with fail
            refine (rdigit_any (r : Int) _ false HD).mono ?_
            rintro e w1 ⟨rfl, rfl⟩
            go_wp2_with fail
            refine (rletter_any (r : Int) _ false HE).mono ?_
            rintro e w1 ⟨rfl, rfl⟩
            go_wp2
            go_ret
            exact ⟨rfl, rfl⟩
          · have HD := Aside0.mk hg
            have HE := Aside0.mk hl
            have HST2 : Aside0 (q + d + runA partF ((bs s).drop (q + d)) = m) := ⟨by rw [← hst, if_pos (by rw [partF, hl, hg]; rfl)]; omega⟩
            clear hst
            go_wp2_with fail
            refine (rnext_at s (q : Int) _ (by omega) r d true HG).mono ?_
            rintro e w1 ⟨rfl, rfl⟩
            go_wp2_with fail
            refine (rdigit_any (r : Int) _ false HD).mono ?_
            rintro e w1 ⟨rfl, rfl⟩
            go_wp2_with fail
            refine (rletter_any (r : Int) _ true HE).mono ?_
            rintro e w1 ⟨rfl, rfl⟩
            go_wp2
            go_round
            case rel => exact ⟨q + d, by go_num, by omega, HST2⟩
            case measure => simp [intOf]; omega
        · have HD := Aside0.mk hg
          have HST2 : Aside0 (q + d + runA partF ((bs s).drop (q + d)) = m) := ⟨by rw [← hst, if_pos (by rw [partF, hg, Bool.or_true])]; omega⟩
          clear hst
          go_wp2_with fail
          refine (rnext_at s (q : Int) _ (by omega) r d true HG).mono ?_
          rintro e w1 ⟨rfl, rfl⟩
          go_wp2_with fail
          refine (rdigit_any (r : Int) _ true HD).mono ?_
          rintro e w1 ⟨rfl, rfl⟩
          go_wp2
          go_round
          case rel => exact ⟨q + d, by go_num, by omega, HST2⟩
          case measure => simp [intOf]; omega
    · have HG := Aside0.mk (nextG_over s q hlt)
      have hqm : m = q := by
        have := HV.out
        rw [List.drop_eq_nil_of_le (by rw [bs_length]; omega), runA_nil] at this
        omega
      subst hqm
      go_wp2_with fail
      refine (rnext_at s (m : Int) _ (by omega) 0 0 false HG).mono ?_
      rintro e w1 ⟨rfl, rfl⟩
      go_wp2
      go_ret
      exact ⟨rfl, rfl⟩
end Go.Proofs.YteipadogmdppgaaDoor
