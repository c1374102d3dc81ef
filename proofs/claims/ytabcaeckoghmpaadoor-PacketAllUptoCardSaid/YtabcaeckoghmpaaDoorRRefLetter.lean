/- The reference's letters. -/
import Derived.Test.YtabcaeckoghmpaaDoorRLetter
namespace Go.Proofs.YtabcaeckoghmpaaDoor
set_option linter.unusedVariables false
set_option linter.unusedSimpArgs false
open Go.RowKit Go.Proofs.YtabcaeckoghmpaaDoorW.PrintWords

theorem rdigit_any (r : Int) (w : World) (v : Bool) (hv : Aside0 (digitF r = v)) : Calls Tryd.prog 40 #[.int .i32 r] w fun e w' => e = .returned (.bool v) ∧ w = w' := by
  have h := hv.out
  rw [digitF, inF] at h
  by_cases h1 : 48 ≤ r
  · by_cases h2 : r ≤ 57
    · rw [decide_eq_true h1, decide_eq_true h2] at h
      subst h
      clear hv
      go_enter Tryd.func40, Tryd.ntmps40
      go_wp2
      go_ret
      exact ⟨rfl, rfl⟩
    · rw [decide_eq_true h1, decide_eq_false h2] at h
      subst h
      clear hv
      go_enter Tryd.func40, Tryd.ntmps40
      go_wp2
      go_ret
      exact ⟨rfl, rfl⟩
  · rw [decide_eq_false h1] at h
    subst h
    clear hv
    go_enter Tryd.func40, Tryd.ntmps40
    go_wp2
    go_ret
    exact ⟨rfl, rfl⟩

set_option maxRecDepth 100000 in
set_option maxHeartbeats 4000000 in
theorem rletter_any (r : Int) (w : World) (v : Bool) (hv : Aside0 (letterF r = v)) : Calls Tryd.prog 38 #[.int .i32 r] w fun e w' => e = .returned (.bool v) ∧ w = w' := by
  have hv' := hv.out
  unfold letterF inF at hv'
  by_cases g0 : r ≤ 64
  · have f0 : decide (97 ≤ r) = false := decide_eq_false (by omega)
    have f1 : decide (65 ≤ r) = false := decide_eq_false (by omega)
    have f2 : decide (192 ≤ r) = false := decide_eq_false (by omega)
    have f3 : decide (913 ≤ r) = false := decide_eq_false (by omega)
    have f4 : decide (r ≤ 122) = true := decide_eq_true (by omega)
    have f5 : decide (r ≤ 90) = true := decide_eq_true (by omega)
    have f6 : decide (r ≤ 591) = true := decide_eq_true (by omega)
    have f7 : decide (r ≤ 969) = true := decide_eq_true (by omega)
    have q0 : (r == 95) = false := by rw [beq_eq_false_iff_ne]; omega
    have n0 : (r != 95) = true := by rw [bne_iff_ne]; omega
    have q1 : (r == 215) = false := by rw [beq_eq_false_iff_ne]; omega
    have n1 : (r != 215) = true := by rw [bne_iff_ne]; omega
    have q2 : (r == 247) = false := by rw [beq_eq_false_iff_ne]; omega
    have n2 : (r != 247) = true := by rw [bne_iff_ne]; omega
    have q3 : (r == 930) = false := by rw [beq_eq_false_iff_ne]; omega
    have n3 : (r != 930) = true := by rw [bne_iff_ne]; omega
    rw [f0, f1, f2, f3, f4, f5, f6, f7, q0, q1, q2, q3] at hv'
    simp only [Bool.or_true, Bool.true_or, Bool.or_false, Bool.false_or, Bool.and_true, Bool.true_and, Bool.and_false, Bool.false_and, Bool.not_true, Bool.not_false] at hv'
    subst hv'
    clear hv g0
    go_enter Tryd.func38, Tryd.ntmps38
    go_wp2
    go_ret
    exact ⟨rfl, rfl⟩
  · skip
    by_cases g1 : r ≤ 90
    · have f0 : decide (97 ≤ r) = false := decide_eq_false (by omega)
      have f1 : decide (65 ≤ r) = true := decide_eq_true (by omega)
      have f2 : decide (192 ≤ r) = false := decide_eq_false (by omega)
      have f3 : decide (913 ≤ r) = false := decide_eq_false (by omega)
      have f4 : decide (r ≤ 122) = true := decide_eq_true (by omega)
      have f5 : decide (r ≤ 90) = true := decide_eq_true (by omega)
      have f6 : decide (r ≤ 591) = true := decide_eq_true (by omega)
      have f7 : decide (r ≤ 969) = true := decide_eq_true (by omega)
      have q0 : (r == 95) = false := by rw [beq_eq_false_iff_ne]; omega
      have n0 : (r != 95) = true := by rw [bne_iff_ne]; omega
      have q1 : (r == 215) = false := by rw [beq_eq_false_iff_ne]; omega
      have n1 : (r != 215) = true := by rw [bne_iff_ne]; omega
      have q2 : (r == 247) = false := by rw [beq_eq_false_iff_ne]; omega
      have n2 : (r != 247) = true := by rw [bne_iff_ne]; omega
      have q3 : (r == 930) = false := by rw [beq_eq_false_iff_ne]; omega
      have n3 : (r != 930) = true := by rw [bne_iff_ne]; omega
      rw [f0, f1, f2, f3, f4, f5, f6, f7, q0, q1, q2, q3] at hv'
      simp only [Bool.or_true, Bool.true_or, Bool.or_false, Bool.false_or, Bool.and_true, Bool.true_and, Bool.and_false, Bool.false_and, Bool.not_true, Bool.not_false] at hv'
      subst hv'
      clear hv g0 g1
      go_enter Tryd.func38, Tryd.ntmps38
      go_wp2
      go_ret
      exact ⟨rfl, rfl⟩
    · skip
      by_cases g2 : r ≤ 94
      · have f0 : decide (97 ≤ r) = false := decide_eq_false (by omega)
        have f1 : decide (65 ≤ r) = true := decide_eq_true (by omega)
        have f2 : decide (192 ≤ r) = false := decide_eq_false (by omega)
        have f3 : decide (913 ≤ r) = false := decide_eq_false (by omega)
        have f4 : decide (r ≤ 122) = true := decide_eq_true (by omega)
        have f5 : decide (r ≤ 90) = false := decide_eq_false (by omega)
        have f6 : decide (r ≤ 591) = true := decide_eq_true (by omega)
        have f7 : decide (r ≤ 969) = true := decide_eq_true (by omega)
        have q0 : (r == 95) = false := by rw [beq_eq_false_iff_ne]; omega
        have n0 : (r != 95) = true := by rw [bne_iff_ne]; omega
        have q1 : (r == 215) = false := by rw [beq_eq_false_iff_ne]; omega
        have n1 : (r != 215) = true := by rw [bne_iff_ne]; omega
        have q2 : (r == 247) = false := by rw [beq_eq_false_iff_ne]; omega
        have n2 : (r != 247) = true := by rw [bne_iff_ne]; omega
        have q3 : (r == 930) = false := by rw [beq_eq_false_iff_ne]; omega
        have n3 : (r != 930) = true := by rw [bne_iff_ne]; omega
        rw [f0, f1, f2, f3, f4, f5, f6, f7, q0, q1, q2, q3] at hv'
        simp only [Bool.or_true, Bool.true_or, Bool.or_false, Bool.false_or, Bool.and_true, Bool.true_and, Bool.and_false, Bool.false_and, Bool.not_true, Bool.not_false] at hv'
        subst hv'
        clear hv g0 g1 g2
        go_enter Tryd.func38, Tryd.ntmps38
        go_wp2
        go_ret
        exact ⟨rfl, rfl⟩
      · skip
        by_cases g3 : r ≤ 95
        · have f0 : decide (97 ≤ r) = false := decide_eq_false (by omega)
          have f1 : decide (65 ≤ r) = true := decide_eq_true (by omega)
          have f2 : decide (192 ≤ r) = false := decide_eq_false (by omega)
          have f3 : decide (913 ≤ r) = false := decide_eq_false (by omega)
          have f4 : decide (r ≤ 122) = true := decide_eq_true (by omega)
          have f5 : decide (r ≤ 90) = false := decide_eq_false (by omega)
          have f6 : decide (r ≤ 591) = true := decide_eq_true (by omega)
          have f7 : decide (r ≤ 969) = true := decide_eq_true (by omega)
          have q0 : (r == 95) = true := by rw [beq_iff_eq]; omega
          have n0 : (r != 95) = false := by rw [bne_eq_false_iff_eq]; omega
          have q1 : (r == 215) = false := by rw [beq_eq_false_iff_ne]; omega
          have n1 : (r != 215) = true := by rw [bne_iff_ne]; omega
          have q2 : (r == 247) = false := by rw [beq_eq_false_iff_ne]; omega
          have n2 : (r != 247) = true := by rw [bne_iff_ne]; omega
          have q3 : (r == 930) = false := by rw [beq_eq_false_iff_ne]; omega
          have n3 : (r != 930) = true := by rw [bne_iff_ne]; omega
          rw [f0, f1, f2, f3, f4, f5, f6, f7, q0, q1, q2, q3] at hv'
          simp only [Bool.or_true, Bool.true_or, Bool.or_false, Bool.false_or, Bool.and_true, Bool.true_and, Bool.and_false, Bool.false_and, Bool.not_true, Bool.not_false] at hv'
          subst hv'
          clear hv g0 g1 g2 g3
          go_enter Tryd.func38, Tryd.ntmps38
          go_wp2
          go_ret
          exact ⟨rfl, rfl⟩
        · skip
          by_cases g4 : r ≤ 96
          · have f0 : decide (97 ≤ r) = false := decide_eq_false (by omega)
            have f1 : decide (65 ≤ r) = true := decide_eq_true (by omega)
            have f2 : decide (192 ≤ r) = false := decide_eq_false (by omega)
            have f3 : decide (913 ≤ r) = false := decide_eq_false (by omega)
            have f4 : decide (r ≤ 122) = true := decide_eq_true (by omega)
            have f5 : decide (r ≤ 90) = false := decide_eq_false (by omega)
            have f6 : decide (r ≤ 591) = true := decide_eq_true (by omega)
            have f7 : decide (r ≤ 969) = true := decide_eq_true (by omega)
            have q0 : (r == 95) = false := by rw [beq_eq_false_iff_ne]; omega
            have n0 : (r != 95) = true := by rw [bne_iff_ne]; omega
            have q1 : (r == 215) = false := by rw [beq_eq_false_iff_ne]; omega
            have n1 : (r != 215) = true := by rw [bne_iff_ne]; omega
            have q2 : (r == 247) = false := by rw [beq_eq_false_iff_ne]; omega
            have n2 : (r != 247) = true := by rw [bne_iff_ne]; omega
            have q3 : (r == 930) = false := by rw [beq_eq_false_iff_ne]; omega
            have n3 : (r != 930) = true := by rw [bne_iff_ne]; omega
            rw [f0, f1, f2, f3, f4, f5, f6, f7, q0, q1, q2, q3] at hv'
            simp only [Bool.or_true, Bool.true_or, Bool.or_false, Bool.false_or, Bool.and_true, Bool.true_and, Bool.and_false, Bool.false_and, Bool.not_true, Bool.not_false] at hv'
            subst hv'
            clear hv g0 g1 g2 g3 g4
            go_enter Tryd.func38, Tryd.ntmps38
            go_wp2
            go_ret
            exact ⟨rfl, rfl⟩
          · skip
            by_cases g5 : r ≤ 122
            · have f0 : decide (97 ≤ r) = true := decide_eq_true (by omega)
              have f1 : decide (65 ≤ r) = true := decide_eq_true (by omega)
              have f2 : decide (192 ≤ r) = false := decide_eq_false (by omega)
              have f3 : decide (913 ≤ r) = false := decide_eq_false (by omega)
              have f4 : decide (r ≤ 122) = true := decide_eq_true (by omega)
              have f5 : decide (r ≤ 90) = false := decide_eq_false (by omega)
              have f6 : decide (r ≤ 591) = true := decide_eq_true (by omega)
              have f7 : decide (r ≤ 969) = true := decide_eq_true (by omega)
              have q0 : (r == 95) = false := by rw [beq_eq_false_iff_ne]; omega
              have n0 : (r != 95) = true := by rw [bne_iff_ne]; omega
              have q1 : (r == 215) = false := by rw [beq_eq_false_iff_ne]; omega
              have n1 : (r != 215) = true := by rw [bne_iff_ne]; omega
              have q2 : (r == 247) = false := by rw [beq_eq_false_iff_ne]; omega
              have n2 : (r != 247) = true := by rw [bne_iff_ne]; omega
              have q3 : (r == 930) = false := by rw [beq_eq_false_iff_ne]; omega
              have n3 : (r != 930) = true := by rw [bne_iff_ne]; omega
              rw [f0, f1, f2, f3, f4, f5, f6, f7, q0, q1, q2, q3] at hv'
              simp only [Bool.or_true, Bool.true_or, Bool.or_false, Bool.false_or, Bool.and_true, Bool.true_and, Bool.and_false, Bool.false_and, Bool.not_true, Bool.not_false] at hv'
              subst hv'
              clear hv g0 g1 g2 g3 g4 g5
              go_enter Tryd.func38, Tryd.ntmps38
              go_wp2
              go_ret
              exact ⟨rfl, rfl⟩
            · skip
              by_cases g6 : r ≤ 191
              · have f0 : decide (97 ≤ r) = true := decide_eq_true (by omega)
                have f1 : decide (65 ≤ r) = true := decide_eq_true (by omega)
                have f2 : decide (192 ≤ r) = false := decide_eq_false (by omega)
                have f3 : decide (913 ≤ r) = false := decide_eq_false (by omega)
                have f4 : decide (r ≤ 122) = false := decide_eq_false (by omega)
                have f5 : decide (r ≤ 90) = false := decide_eq_false (by omega)
                have f6 : decide (r ≤ 591) = true := decide_eq_true (by omega)
                have f7 : decide (r ≤ 969) = true := decide_eq_true (by omega)
                have q0 : (r == 95) = false := by rw [beq_eq_false_iff_ne]; omega
                have n0 : (r != 95) = true := by rw [bne_iff_ne]; omega
                have q1 : (r == 215) = false := by rw [beq_eq_false_iff_ne]; omega
                have n1 : (r != 215) = true := by rw [bne_iff_ne]; omega
                have q2 : (r == 247) = false := by rw [beq_eq_false_iff_ne]; omega
                have n2 : (r != 247) = true := by rw [bne_iff_ne]; omega
                have q3 : (r == 930) = false := by rw [beq_eq_false_iff_ne]; omega
                have n3 : (r != 930) = true := by rw [bne_iff_ne]; omega
                rw [f0, f1, f2, f3, f4, f5, f6, f7, q0, q1, q2, q3] at hv'
                simp only [Bool.or_true, Bool.true_or, Bool.or_false, Bool.false_or, Bool.and_true, Bool.true_and, Bool.and_false, Bool.false_and, Bool.not_true, Bool.not_false] at hv'
                subst hv'
                clear hv g0 g1 g2 g3 g4 g5 g6
                go_enter Tryd.func38, Tryd.ntmps38
                go_wp2
                go_ret
                exact ⟨rfl, rfl⟩
              · skip
                by_cases g7 : r ≤ 214
                · have f0 : decide (97 ≤ r) = true := decide_eq_true (by omega)
                  have f1 : decide (65 ≤ r) = true := decide_eq_true (by omega)
                  have f2 : decide (192 ≤ r) = true := decide_eq_true (by omega)
                  have f3 : decide (913 ≤ r) = false := decide_eq_false (by omega)
                  have f4 : decide (r ≤ 122) = false := decide_eq_false (by omega)
                  have f5 : decide (r ≤ 90) = false := decide_eq_false (by omega)
                  have f6 : decide (r ≤ 591) = true := decide_eq_true (by omega)
                  have f7 : decide (r ≤ 969) = true := decide_eq_true (by omega)
                  have q0 : (r == 95) = false := by rw [beq_eq_false_iff_ne]; omega
                  have n0 : (r != 95) = true := by rw [bne_iff_ne]; omega
                  have q1 : (r == 215) = false := by rw [beq_eq_false_iff_ne]; omega
                  have n1 : (r != 215) = true := by rw [bne_iff_ne]; omega
                  have q2 : (r == 247) = false := by rw [beq_eq_false_iff_ne]; omega
                  have n2 : (r != 247) = true := by rw [bne_iff_ne]; omega
                  have q3 : (r == 930) = false := by rw [beq_eq_false_iff_ne]; omega
                  have n3 : (r != 930) = true := by rw [bne_iff_ne]; omega
                  rw [f0, f1, f2, f3, f4, f5, f6, f7, q0, q1, q2, q3] at hv'
                  simp only [Bool.or_true, Bool.true_or, Bool.or_false, Bool.false_or, Bool.and_true, Bool.true_and, Bool.and_false, Bool.false_and, Bool.not_true, Bool.not_false] at hv'
                  subst hv'
                  clear hv g0 g1 g2 g3 g4 g5 g6 g7
                  go_enter Tryd.func38, Tryd.ntmps38
                  go_wp2
                  go_ret
                  exact ⟨rfl, rfl⟩
                · skip
                  by_cases g8 : r ≤ 215
                  · have f0 : decide (97 ≤ r) = true := decide_eq_true (by omega)
                    have f1 : decide (65 ≤ r) = true := decide_eq_true (by omega)
                    have f2 : decide (192 ≤ r) = true := decide_eq_true (by omega)
                    have f3 : decide (913 ≤ r) = false := decide_eq_false (by omega)
                    have f4 : decide (r ≤ 122) = false := decide_eq_false (by omega)
                    have f5 : decide (r ≤ 90) = false := decide_eq_false (by omega)
                    have f6 : decide (r ≤ 591) = true := decide_eq_true (by omega)
                    have f7 : decide (r ≤ 969) = true := decide_eq_true (by omega)
                    have q0 : (r == 95) = false := by rw [beq_eq_false_iff_ne]; omega
                    have n0 : (r != 95) = true := by rw [bne_iff_ne]; omega
                    have q1 : (r == 215) = true := by rw [beq_iff_eq]; omega
                    have n1 : (r != 215) = false := by rw [bne_eq_false_iff_eq]; omega
                    have q2 : (r == 247) = false := by rw [beq_eq_false_iff_ne]; omega
                    have n2 : (r != 247) = true := by rw [bne_iff_ne]; omega
                    have q3 : (r == 930) = false := by rw [beq_eq_false_iff_ne]; omega
                    have n3 : (r != 930) = true := by rw [bne_iff_ne]; omega
                    rw [f0, f1, f2, f3, f4, f5, f6, f7, q0, q1, q2, q3] at hv'
                    simp only [Bool.or_true, Bool.true_or, Bool.or_false, Bool.false_or, Bool.and_true, Bool.true_and, Bool.and_false, Bool.false_and, Bool.not_true, Bool.not_false] at hv'
                    subst hv'
                    clear hv g0 g1 g2 g3 g4 g5 g6 g7 g8
                    go_enter Tryd.func38, Tryd.ntmps38
                    go_wp2
                    go_ret
                    exact ⟨rfl, rfl⟩
                  · skip
                    by_cases g9 : r ≤ 246
                    · have f0 : decide (97 ≤ r) = true := decide_eq_true (by omega)
                      have f1 : decide (65 ≤ r) = true := decide_eq_true (by omega)
                      have f2 : decide (192 ≤ r) = true := decide_eq_true (by omega)
                      have f3 : decide (913 ≤ r) = false := decide_eq_false (by omega)
                      have f4 : decide (r ≤ 122) = false := decide_eq_false (by omega)
                      have f5 : decide (r ≤ 90) = false := decide_eq_false (by omega)
                      have f6 : decide (r ≤ 591) = true := decide_eq_true (by omega)
                      have f7 : decide (r ≤ 969) = true := decide_eq_true (by omega)
                      have q0 : (r == 95) = false := by rw [beq_eq_false_iff_ne]; omega
                      have n0 : (r != 95) = true := by rw [bne_iff_ne]; omega
                      have q1 : (r == 215) = false := by rw [beq_eq_false_iff_ne]; omega
                      have n1 : (r != 215) = true := by rw [bne_iff_ne]; omega
                      have q2 : (r == 247) = false := by rw [beq_eq_false_iff_ne]; omega
                      have n2 : (r != 247) = true := by rw [bne_iff_ne]; omega
                      have q3 : (r == 930) = false := by rw [beq_eq_false_iff_ne]; omega
                      have n3 : (r != 930) = true := by rw [bne_iff_ne]; omega
                      rw [f0, f1, f2, f3, f4, f5, f6, f7, q0, q1, q2, q3] at hv'
                      simp only [Bool.or_true, Bool.true_or, Bool.or_false, Bool.false_or, Bool.and_true, Bool.true_and, Bool.and_false, Bool.false_and, Bool.not_true, Bool.not_false] at hv'
                      subst hv'
                      clear hv g0 g1 g2 g3 g4 g5 g6 g7 g8 g9
                      go_enter Tryd.func38, Tryd.ntmps38
                      go_wp2
                      go_ret
                      exact ⟨rfl, rfl⟩
                    · skip
                      by_cases g10 : r ≤ 247
                      · have f0 : decide (97 ≤ r) = true := decide_eq_true (by omega)
                        have f1 : decide (65 ≤ r) = true := decide_eq_true (by omega)
                        have f2 : decide (192 ≤ r) = true := decide_eq_true (by omega)
                        have f3 : decide (913 ≤ r) = false := decide_eq_false (by omega)
                        have f4 : decide (r ≤ 122) = false := decide_eq_false (by omega)
                        have f5 : decide (r ≤ 90) = false := decide_eq_false (by omega)
                        have f6 : decide (r ≤ 591) = true := decide_eq_true (by omega)
                        have f7 : decide (r ≤ 969) = true := decide_eq_true (by omega)
                        have q0 : (r == 95) = false := by rw [beq_eq_false_iff_ne]; omega
                        have n0 : (r != 95) = true := by rw [bne_iff_ne]; omega
                        have q1 : (r == 215) = false := by rw [beq_eq_false_iff_ne]; omega
                        have n1 : (r != 215) = true := by rw [bne_iff_ne]; omega
                        have q2 : (r == 247) = true := by rw [beq_iff_eq]; omega
                        have n2 : (r != 247) = false := by rw [bne_eq_false_iff_eq]; omega
                        have q3 : (r == 930) = false := by rw [beq_eq_false_iff_ne]; omega
                        have n3 : (r != 930) = true := by rw [bne_iff_ne]; omega
                        rw [f0, f1, f2, f3, f4, f5, f6, f7, q0, q1, q2, q3] at hv'
                        simp only [Bool.or_true, Bool.true_or, Bool.or_false, Bool.false_or, Bool.and_true, Bool.true_and, Bool.and_false, Bool.false_and, Bool.not_true, Bool.not_false] at hv'
                        subst hv'
                        clear hv g0 g1 g2 g3 g4 g5 g6 g7 g8 g9 g10
                        go_enter Tryd.func38, Tryd.ntmps38
                        go_wp2
                        go_ret
                        exact ⟨rfl, rfl⟩
                      · skip
                        by_cases g11 : r ≤ 591
                        · have f0 : decide (97 ≤ r) = true := decide_eq_true (by omega)
                          have f1 : decide (65 ≤ r) = true := decide_eq_true (by omega)
                          have f2 : decide (192 ≤ r) = true := decide_eq_true (by omega)
                          have f3 : decide (913 ≤ r) = false := decide_eq_false (by omega)
                          have f4 : decide (r ≤ 122) = false := decide_eq_false (by omega)
                          have f5 : decide (r ≤ 90) = false := decide_eq_false (by omega)
                          have f6 : decide (r ≤ 591) = true := decide_eq_true (by omega)
                          have f7 : decide (r ≤ 969) = true := decide_eq_true (by omega)
                          have q0 : (r == 95) = false := by rw [beq_eq_false_iff_ne]; omega
                          have n0 : (r != 95) = true := by rw [bne_iff_ne]; omega
                          have q1 : (r == 215) = false := by rw [beq_eq_false_iff_ne]; omega
                          have n1 : (r != 215) = true := by rw [bne_iff_ne]; omega
                          have q2 : (r == 247) = false := by rw [beq_eq_false_iff_ne]; omega
                          have n2 : (r != 247) = true := by rw [bne_iff_ne]; omega
                          have q3 : (r == 930) = false := by rw [beq_eq_false_iff_ne]; omega
                          have n3 : (r != 930) = true := by rw [bne_iff_ne]; omega
                          rw [f0, f1, f2, f3, f4, f5, f6, f7, q0, q1, q2, q3] at hv'
                          simp only [Bool.or_true, Bool.true_or, Bool.or_false, Bool.false_or, Bool.and_true, Bool.true_and, Bool.and_false, Bool.false_and, Bool.not_true, Bool.not_false] at hv'
                          subst hv'
                          clear hv g0 g1 g2 g3 g4 g5 g6 g7 g8 g9 g10 g11
                          go_enter Tryd.func38, Tryd.ntmps38
                          go_wp2
                          go_ret
                          exact ⟨rfl, rfl⟩
                        · skip
                          by_cases g12 : r ≤ 912
                          · have f0 : decide (97 ≤ r) = true := decide_eq_true (by omega)
                            have f1 : decide (65 ≤ r) = true := decide_eq_true (by omega)
                            have f2 : decide (192 ≤ r) = true := decide_eq_true (by omega)
                            have f3 : decide (913 ≤ r) = false := decide_eq_false (by omega)
                            have f4 : decide (r ≤ 122) = false := decide_eq_false (by omega)
                            have f5 : decide (r ≤ 90) = false := decide_eq_false (by omega)
                            have f6 : decide (r ≤ 591) = false := decide_eq_false (by omega)
                            have f7 : decide (r ≤ 969) = true := decide_eq_true (by omega)
                            have q0 : (r == 95) = false := by rw [beq_eq_false_iff_ne]; omega
                            have n0 : (r != 95) = true := by rw [bne_iff_ne]; omega
                            have q1 : (r == 215) = false := by rw [beq_eq_false_iff_ne]; omega
                            have n1 : (r != 215) = true := by rw [bne_iff_ne]; omega
                            have q2 : (r == 247) = false := by rw [beq_eq_false_iff_ne]; omega
                            have n2 : (r != 247) = true := by rw [bne_iff_ne]; omega
                            have q3 : (r == 930) = false := by rw [beq_eq_false_iff_ne]; omega
                            have n3 : (r != 930) = true := by rw [bne_iff_ne]; omega
                            rw [f0, f1, f2, f3, f4, f5, f6, f7, q0, q1, q2, q3] at hv'
                            simp only [Bool.or_true, Bool.true_or, Bool.or_false, Bool.false_or, Bool.and_true, Bool.true_and, Bool.and_false, Bool.false_and, Bool.not_true, Bool.not_false] at hv'
                            subst hv'
                            clear hv g0 g1 g2 g3 g4 g5 g6 g7 g8 g9 g10 g11 g12
                            go_enter Tryd.func38, Tryd.ntmps38
                            go_wp2
                            go_ret
                            exact ⟨rfl, rfl⟩
                          · skip
                            by_cases g13 : r ≤ 929
                            · have f0 : decide (97 ≤ r) = true := decide_eq_true (by omega)
                              have f1 : decide (65 ≤ r) = true := decide_eq_true (by omega)
                              have f2 : decide (192 ≤ r) = true := decide_eq_true (by omega)
                              have f3 : decide (913 ≤ r) = true := decide_eq_true (by omega)
                              have f4 : decide (r ≤ 122) = false := decide_eq_false (by omega)
                              have f5 : decide (r ≤ 90) = false := decide_eq_false (by omega)
                              have f6 : decide (r ≤ 591) = false := decide_eq_false (by omega)
                              have f7 : decide (r ≤ 969) = true := decide_eq_true (by omega)
                              have q0 : (r == 95) = false := by rw [beq_eq_false_iff_ne]; omega
                              have n0 : (r != 95) = true := by rw [bne_iff_ne]; omega
                              have q1 : (r == 215) = false := by rw [beq_eq_false_iff_ne]; omega
                              have n1 : (r != 215) = true := by rw [bne_iff_ne]; omega
                              have q2 : (r == 247) = false := by rw [beq_eq_false_iff_ne]; omega
                              have n2 : (r != 247) = true := by rw [bne_iff_ne]; omega
                              have q3 : (r == 930) = false := by rw [beq_eq_false_iff_ne]; omega
                              have n3 : (r != 930) = true := by rw [bne_iff_ne]; omega
                              rw [f0, f1, f2, f3, f4, f5, f6, f7, q0, q1, q2, q3] at hv'
                              simp only [Bool.or_true, Bool.true_or, Bool.or_false, Bool.false_or, Bool.and_true, Bool.true_and, Bool.and_false, Bool.false_and, Bool.not_true, Bool.not_false] at hv'
                              subst hv'
                              clear hv g0 g1 g2 g3 g4 g5 g6 g7 g8 g9 g10 g11 g12 g13
                              go_enter Tryd.func38, Tryd.ntmps38
                              go_wp2
                              go_ret
                              exact ⟨rfl, rfl⟩
                            · skip
                              by_cases g14 : r ≤ 930
                              · have f0 : decide (97 ≤ r) = true := decide_eq_true (by omega)
                                have f1 : decide (65 ≤ r) = true := decide_eq_true (by omega)
                                have f2 : decide (192 ≤ r) = true := decide_eq_true (by omega)
                                have f3 : decide (913 ≤ r) = true := decide_eq_true (by omega)
                                have f4 : decide (r ≤ 122) = false := decide_eq_false (by omega)
                                have f5 : decide (r ≤ 90) = false := decide_eq_false (by omega)
                                have f6 : decide (r ≤ 591) = false := decide_eq_false (by omega)
                                have f7 : decide (r ≤ 969) = true := decide_eq_true (by omega)
                                have q0 : (r == 95) = false := by rw [beq_eq_false_iff_ne]; omega
                                have n0 : (r != 95) = true := by rw [bne_iff_ne]; omega
                                have q1 : (r == 215) = false := by rw [beq_eq_false_iff_ne]; omega
                                have n1 : (r != 215) = true := by rw [bne_iff_ne]; omega
                                have q2 : (r == 247) = false := by rw [beq_eq_false_iff_ne]; omega
                                have n2 : (r != 247) = true := by rw [bne_iff_ne]; omega
                                have q3 : (r == 930) = true := by rw [beq_iff_eq]; omega
                                have n3 : (r != 930) = false := by rw [bne_eq_false_iff_eq]; omega
                                rw [f0, f1, f2, f3, f4, f5, f6, f7, q0, q1, q2, q3] at hv'
                                simp only [Bool.or_true, Bool.true_or, Bool.or_false, Bool.false_or, Bool.and_true, Bool.true_and, Bool.and_false, Bool.false_and, Bool.not_true, Bool.not_false] at hv'
                                subst hv'
                                clear hv g0 g1 g2 g3 g4 g5 g6 g7 g8 g9 g10 g11 g12 g13 g14
                                go_enter Tryd.func38, Tryd.ntmps38
                                go_wp2
                                go_ret
                                exact ⟨rfl, rfl⟩
                              · skip
                                by_cases g15 : r ≤ 969
                                · have f0 : decide (97 ≤ r) = true := decide_eq_true (by omega)
                                  have f1 : decide (65 ≤ r) = true := decide_eq_true (by omega)
                                  have f2 : decide (192 ≤ r) = true := decide_eq_true (by omega)
                                  have f3 : decide (913 ≤ r) = true := decide_eq_true (by omega)
                                  have f4 : decide (r ≤ 122) = false := decide_eq_false (by omega)
                                  have f5 : decide (r ≤ 90) = false := decide_eq_false (by omega)
                                  have f6 : decide (r ≤ 591) = false := decide_eq_false (by omega)
                                  have f7 : decide (r ≤ 969) = true := decide_eq_true (by omega)
                                  have q0 : (r == 95) = false := by rw [beq_eq_false_iff_ne]; omega
                                  have n0 : (r != 95) = true := by rw [bne_iff_ne]; omega
                                  have q1 : (r == 215) = false := by rw [beq_eq_false_iff_ne]; omega
                                  have n1 : (r != 215) = true := by rw [bne_iff_ne]; omega
                                  have q2 : (r == 247) = false := by rw [beq_eq_false_iff_ne]; omega
                                  have n2 : (r != 247) = true := by rw [bne_iff_ne]; omega
                                  have q3 : (r == 930) = false := by rw [beq_eq_false_iff_ne]; omega
                                  have n3 : (r != 930) = true := by rw [bne_iff_ne]; omega
                                  rw [f0, f1, f2, f3, f4, f5, f6, f7, q0, q1, q2, q3] at hv'
                                  simp only [Bool.or_true, Bool.true_or, Bool.or_false, Bool.false_or, Bool.and_true, Bool.true_and, Bool.and_false, Bool.false_and, Bool.not_true, Bool.not_false] at hv'
                                  subst hv'
                                  clear hv g0 g1 g2 g3 g4 g5 g6 g7 g8 g9 g10 g11 g12 g13 g14 g15
                                  go_enter Tryd.func38, Tryd.ntmps38
                                  go_wp2
                                  go_ret
                                  exact ⟨rfl, rfl⟩
                                · skip
                                  have f0 : decide (97 ≤ r) = true := decide_eq_true (by omega)
                                  have f1 : decide (65 ≤ r) = true := decide_eq_true (by omega)
                                  have f2 : decide (192 ≤ r) = true := decide_eq_true (by omega)
                                  have f3 : decide (913 ≤ r) = true := decide_eq_true (by omega)
                                  have f4 : decide (r ≤ 122) = false := decide_eq_false (by omega)
                                  have f5 : decide (r ≤ 90) = false := decide_eq_false (by omega)
                                  have f6 : decide (r ≤ 591) = false := decide_eq_false (by omega)
                                  have f7 : decide (r ≤ 969) = false := decide_eq_false (by omega)
                                  have q0 : (r == 95) = false := by rw [beq_eq_false_iff_ne]; omega
                                  have n0 : (r != 95) = true := by rw [bne_iff_ne]; omega
                                  have q1 : (r == 215) = false := by rw [beq_eq_false_iff_ne]; omega
                                  have n1 : (r != 215) = true := by rw [bne_iff_ne]; omega
                                  have q2 : (r == 247) = false := by rw [beq_eq_false_iff_ne]; omega
                                  have n2 : (r != 247) = true := by rw [bne_iff_ne]; omega
                                  have q3 : (r == 930) = false := by rw [beq_eq_false_iff_ne]; omega
                                  have n3 : (r != 930) = true := by rw [bne_iff_ne]; omega
                                  rw [f0, f1, f2, f3, f4, f5, f6, f7, q0, q1, q2, q3] at hv'
                                  simp only [Bool.or_true, Bool.true_or, Bool.or_false, Bool.false_or, Bool.and_true, Bool.true_and, Bool.and_false, Bool.false_and, Bool.not_true, Bool.not_false] at hv'
                                  subst hv'
                                  clear hv g0 g1 g2 g3 g4 g5 g6 g7 g8 g9 g10 g11 g12 g13 g14 g15
                                  go_enter Tryd.func38, Tryd.ntmps38
                                  go_wp2
                                  go_ret
                                  exact ⟨rfl, rfl⟩
end Go.Proofs.YtabcaeckoghmpaaDoor
