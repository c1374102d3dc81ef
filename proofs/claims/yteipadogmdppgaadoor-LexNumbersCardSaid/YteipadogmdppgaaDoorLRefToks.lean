/- The reference's Tokens. -/
import Derived.Test.YteipadogmdppgaaDoorLRefWord
namespace Go.Proofs.YteipadogmdppgaaDoor
set_option linter.unusedVariables false
set_option linter.unusedSimpArgs false
open Go.RowKit Go.Proofs.YteipadogmdppgaaDoorW.PrintWords

theorem rtokens_big (s : ByteArray) (w : World) (hs : 16384 < s.size) :
    Calls Tryd.prog 13 #[.string s] w fun e w' => e = .returned (.tuple #[.slice none 0 0, .int .i64 0, .int .i64 4]) ∧ w = w' := by
  have hb1 : decide (16384 < s.size) = true := decide_eq_true hs
  have hb2 : decide ((16384 : Int) < (s.size : Int)) = true := decide_eq_true (by omega)
  go_enter Tryd.func13, Tryd.ntmps13
  go_wp2
  go_ret3
  exact ⟨rfl, rfl⟩

theorem decN_cont (n b0 b1 b2 b3 : Nat) : (1 < (Lib.decodeN n b0 b1 b2 b3).2 → 128 ≤ b1) ∧ (2 < (Lib.decodeN n b0 b1 b2 b3).2 → 128 ≤ b2) ∧ (3 < (Lib.decodeN n b0 b1 b2 b3).2 → 128 ≤ b3) ∧ (Lib.decodeN n b0 b1 b2 b3).2 ≤ 4 := by
  unfold Lib.decodeN
  repeat' split
  all_goals simp only
  all_goals omega
/-- How many bytes there are to a line's end. -/
def lineL : List Nat → Nat
  | [] => 0
  | b :: u => if b = 10 then 0 else 1 + lineL u
theorem lineL_more : ∀ (k : Nat) (u : List Nat), k ≤ u.length → (∀ i, i < k → u.getD i 0 ≠ 10) → lineL u = k + lineL (u.drop k) := by
  intro k
  induction k with
  | zero => intro u _ _; simp
  | succ k ih =>
    intro u h hu
    cases u with
    | nil => simp at h
    | cons b u =>
      have hb : b ≠ 10 := hu 0 (by omega)
      rw [lineL, if_neg hb, ih u (by simpa using h) (fun i hi => hu (i + 1) (by omega))]
      simp only [List.drop_succ_cons]
      omega
theorem runA_line : ∀ k (u : List Nat), u.length ≤ k → runA nlF u = lineL u := by
  intro k
  induction k with
  | zero =>
    intro u h
    have : u = [] := List.eq_nil_of_length_eq_zero (by omega)
    subst this
    rfl
  | succ k ih =>
    intro u h
    by_cases hu : u = []
    · subst hu; rfl
    · have h1 := dL_pos u
      have h2 := dL_le u hu
      rw [runA_step nlF u hu]
      by_cases h0 : u.getD 0 0 < 128
      · rw [dL_head u h0]
        cases u with
        | nil => exact absurd rfl hu
        | cons b u =>
          have hb : (b :: u).getD 0 0 = b := rfl
          rw [hb]
          by_cases h10 : b = 10
          · subst h10
            simp [nlF, lineL]
          · rw [lineL, if_neg h10, if_pos (by simp [nlF, h10]), List.drop_succ_cons, List.drop_zero, ih u (by simpa using h)]
      · have hge := decN_ge u.length (u.getD 0 0) (u.getD 1 0) (u.getD 2 0) (u.getD 3 0) h0
        have hc := decN_cont u.length (u.getD 0 0) (u.getD 1 0) (u.getD 2 0) (u.getD 3 0)
        have e : dL u = Lib.decodeN u.length (u.getD 0 0) (u.getD 1 0) (u.getD 2 0) (u.getD 3 0) := rfl
        rw [← e] at hge hc
        rw [if_pos (by simp [nlF]; omega), ih (u.drop (dL u).2) (by rw [List.length_drop]; omega)]
        refine (lineL_more _ u h2 fun i hi => ?_).symm
        have hi4 : i = 0 ∨ i = 1 ∨ i = 2 ∨ i = 3 := by omega
        rcases hi4 with rfl | rfl | rfl | rfl
        · omega
        · have := hc.1 (by omega); omega
        · have := hc.2.1 (by omega); omega
        · have := hc.2.2.1 (by omega); omega
theorem drop_cons (s : ByteArray) (q : Nat) (h : q < s.size) : (bs s).drop q = bt8 s q :: (bs s).drop (q + 1) := by
  have hl : q < (bs s).length := by rw [bs_length]; exact h
  rw [List.drop_eq_getElem_cons hl, ← bs_getD, List.getD_eq_getElem?_getD, List.getElem?_eq_getElem hl]
  rfl
theorem own_far {s : ByteArray} {base : Nat} {w : World} {v : Value} {l : List (Nat × Nat × Nat)} (h : Toks s base w v l) (g : Nat) (hg : w.heap.size ≤ g) : some g ≠ v.ownBlock := by
  rcases h.2 with ⟨rfl, _⟩ | ⟨g', cap, cur, rfl, _, hh, _⟩
  · simp [Value.ownBlock]
  · intro he
    have e : g = g' := by simpa [Value.ownBlock] using he
    have := (Array.getElem?_eq_some_iff.1 hh).1
    omega

set_option maxRecDepth 100000 in
set_option maxHeartbeats 8000000 in
theorem rtokens_run (s : ByteArray) (w : World) (hs : s.size ≤ 16384) (L : List (Nat × Nat × Nat)) (E : Option (Nat × Nat)) (hR : Aside0 (toksA 0 (bs s) = (L, E))) :
    Calls Tryd.prog 13 #[.string s] w (TokPost s w L E) := by
  have hb1 : decide (16384 < s.size) = false := decide_eq_false (by omega)
  have hb2 : decide ((16384 : Int) < (s.size : Int)) = false := decide_eq_false (by omega)
  go_enter Tryd.func13, Tryd.ntmps13
  go_wp2_with fail
  go_loopw [5, 6] (fun v u wr => ∃ (v' : Value) (p : Nat) (acc : List (Nat × Nat × Nat)), v' = v ∧ u = .int .i64 (p : Int) ∧ p ≤ s.size ∧ acc.length ≤ p ∧ Aside0 (acc ++ (toksA p ((bs s).drop p)).1 = L) ∧ Aside0 ((toksA p ((bs s).drop p)).2 = E) ∧ Aside0 (Toks s w.heap.size wr v' acc) ∧ Aside0 (Below w.heap.size w wr)) (fun _ u _ => s.size - (intOf u).toNat)
  case atStart => exact ⟨_, 0, [], rfl, rfl, by omega, Nat.zero_le _, ⟨by rw [List.drop_zero, hR.out]; rfl⟩, ⟨by rw [List.drop_zero, hR.out]⟩, ⟨⟨rfl, .inl ⟨rfl, rfl⟩⟩⟩, ⟨Below.refl _ _⟩⟩
  case round =>
    obtain ⟨v0, p, acc, rfl, rfl, hp, hacc, HL, HE, HO, HB⟩ := hrel
    by_cases hlt : p < s.size
    · obtain ⟨u, hu⟩ : ∃ u, (bs s).drop p = u := ⟨_, rfl⟩
      have hu0 : u ≠ [] := by intro e; rw [e] at hu; have := congrArg List.length hu; rw [List.length_drop, bs_length] at this; simp at this; omega
      obtain ⟨x, hx⟩ : ∃ x, bt8 s p = x := ⟨_, rfl⟩
      have hx0 : u.getD 0 0 = x := by rw [← hu, getD_drop', Nat.add_zero, bs_getD, hx]
      have hsi : (s[p]'hlt).toNat = x := by rw [bt8_at, hx]
      have hxl : x < 256 := by rw [← hx]; exact bt8_lt s p
      obtain ⟨r, d, hd⟩ : ∃ r d, dL u = (r, d) := ⟨_, _, rfl⟩
      have hdec : Utf8.decode s p = (r, d) := by rw [dec_dL, hu, hd]
      have hul : u.length = s.size - p := by rw [← hu, List.length_drop, bs_length]
      have hl := HL.out
      have he := HE.out
      rw [hu] at hl he
      have hst : stepL u = _ := rfl
      conv at hst => rhs; unfold stepL
      rw [hd, hx0] at hst
      simp only at hst
      by_cases c2 : blankB x = true
      · have hxlow := blank_low c2
        have hdx := dL_head u (by rw [hx0]; exact hxlow)
        rw [hx0, hd] at hdx
        cases hdx
        rw [if_neg (by omega), if_pos c2] at hst
        rw [toksA_blank p u hu0 1 hst, ← hu, List.drop_drop] at hl he
        have HL2 := Aside0.mk hl
        have HE2 := Aside0.mk he
        have hcs : x = 32 ∨ x = 9 ∨ x = 13 ∨ x = 10 := by simp [blankB] at c2; omega
        clear hst hu hl he HL HE c2 hd hdec hx hx0 hxl hxlow
        rcases hcs with rfl | rfl | rfl | rfl
        all_goals (
          go_wp2
          go_roundw
          case rel => exact ⟨v0, p + 1, acc, rfl, by go_num, by omega, by omega, HL2, HE2, HO, HB⟩
          case measure => simp [intOf]; omega)
      · have hne : x ≠ 32 ∧ x ≠ 9 ∧ x ≠ 13 ∧ x ≠ 10 := by simp [blankB] at c2; omega
        have e1 : ((x : Int) == 32) = false := beq_eq_false_iff_ne.2 (by omega)
        have e2 : ((x : Int) == 9) = false := beq_eq_false_iff_ne.2 (by omega)
        have e3 : ((x : Int) == 13) = false := beq_eq_false_iff_ne.2 (by omega)
        have e4 : ((x : Int) == 10) = false := beq_eq_false_iff_ne.2 (by omega)
        by_cases c3 : slashB u = true
        · obtain ⟨s1, s2⟩ := slash_dL c3
          rw [hd] at s1
          cases s1
          rw [if_neg (by omega), if_neg c2, if_pos c3] at hst
          obtain ⟨n, hn⟩ : ∃ n, runA nlF u = n := ⟨_, rfl⟩
          rw [hn] at hst
          obtain ⟨hb3, hb4, hb5⟩ := step_bound u hu0 0 n hst
          rw [toksA_blank p u hu0 n hst, ← hu, List.drop_drop] at hl he
          have HL2 := Aside0.mk hl
          have HE2 := Aside0.mk he
          obtain ⟨p1, hp1e⟩ : ∃ p1, p + 1 = p1 := ⟨_, rfl⟩
          have hp1 : p1 < s.size := by omega
          have hy0 : bt8 s p1 = 47 := by
            have := c3
            simp only [slashB, Bool.and_eq_true, beq_iff_eq] at this
            rw [← hu, getD_drop', getD_drop', bs_getD, bs_getD, hp1e] at this
            exact this.2
          have hx47 : x = 47 := by
            have := c3
            simp only [slashB, Bool.and_eq_true, beq_iff_eq] at this
            rw [← hx0]; exact this.1
          have hsi2 : (s[p1]'hp1).toNat = 47 := by rw [bt8_at, hy0]
          have hp1i : (p : Int) + 1 = (p1 : Int) := by omega
          have hb9 : decide ((p1 : Int) < (s.size : Int)) = true := decide_eq_true (by omega)
          have hb9n : decide (p1 < s.size) = true := decide_eq_true hp1
          have HLN : Aside0 (p + lineL ((bs s).drop p) = p + n) := ⟨by rw [hu, ← runA_line _ u (Nat.le_refl _), hn]⟩
          subst hx47
          clear hst hu hl he HL HE c3 hn hd hdec hx hx0 hy0 c2
          go_wp2_with fail
          go_loop [6] (fun z => ∃ q : Nat, z = .int .i64 (q : Int) ∧ q ≤ s.size ∧ Aside0 (q + lineL ((bs s).drop q) = p + n)) (fun z => s.size - (intOf z).toNat)
          case atStart => exact ⟨p, rfl, by omega, HLN⟩
          case round =>
            obtain ⟨q, rfl, hq, HV⟩ := hrel
            by_cases hq2 : q < s.size
            · obtain ⟨y, hy⟩ : ∃ y, bt8 s q = y := ⟨_, rfl⟩
              have hsq : (s[q]'hq2).toNat = y := by rw [bt8_at, hy]
              have hv := HV.out
              rw [drop_cons s q hq2, hy, lineL] at hv
              by_cases hy10 : y = 10
              · rw [if_pos hy10] at hv
                subst hy10
                have hqe : p + n = q := by omega
                rw [hqe] at HL2 HE2
                clear hy hv HV
                go_wp2
                go_roundw
                case rel => exact ⟨v0, q, acc, rfl, by go_num, by omega, by omega, HL2, HE2, HO, HB⟩
                case measure => simp [intOf]; omega
              · rw [if_neg hy10] at hv
                have hyb : ((y : Int) != 10) = true := by rw [bne_iff_ne]; omega
                have HV2 : Aside0 (q + 1 + lineL ((bs s).drop (q + 1)) = p + n) := ⟨by omega⟩
                clear hy hv HV hy10
                go_wp2
                go_round
                case rel => exact ⟨q + 1, by go_num, by omega, HV2⟩
                case measure => simp [intOf]; omega
            · have hv := HV.out
              rw [List.drop_eq_nil_of_le (by rw [bs_length]; omega), lineL] at hv
              have hqe : p + n = q := by omega
              rw [hqe] at HL2 HE2
              clear hv HV
              go_wp2
              go_roundw
              case rel => exact ⟨v0, q, acc, rfl, by go_num, by omega, by omega, HL2, HE2, HO, HB⟩
              case measure => simp [intOf]; omega
        · by_cases hx47 : x = 47
          · -- a '/' alone
            have hdx := dL_head u (by rw [hx0]; omega)
            rw [hx0, hd] at hdx
            cases hdx
            subst hx47
            rw [if_neg (by omega), if_neg c2, if_neg c3, if_neg (by decide), if_neg (by decide), if_neg (by decide)] at hst
            have HG : Aside0 (nextG s (p : Int) = (47, 1, true)) := ⟨by rw [nextG_fine s p hlt (by rw [hdec]; simp), hdec]⟩
            have HC4 : Aside0 (letterF ((47 : Nat) : Int) = false) := ⟨by decide⟩
            have HC5 : Aside0 (digitF ((47 : Nat) : Int) = false) := ⟨by decide⟩
            by_cases hp1 : p + 1 < s.size
            · obtain ⟨y, hy⟩ : ∃ y, bt8 s (p + 1) = y := ⟨_, rfl⟩
              have hyne : y ≠ 47 := by
                intro e
                apply c3
                simp only [slashB, Bool.and_eq_true, beq_iff_eq]
                rw [hx0, ← hu, getD_drop', bs_getD, hy]
                exact ⟨rfl, e⟩
              have hyb : ((y : Int) == 47) = false := beq_eq_false_iff_ne.2 (by omega)
              obtain ⟨p1, hp1e⟩ : ∃ p1, p + 1 = p1 := ⟨_, rfl⟩
              have hp1i : (p : Int) + 1 = (p1 : Int) := by omega
              have hcut1 := fun W => cut_str s p p1 (by omega) (by omega) W
              have hsi2 : (s[p1]'(by omega)).toNat = y := by subst hp1e; rw [bt8_at _ _ hp1, hy]
              have hp1l : p1 < s.size := by omega
              have hb9 : decide ((p1 : Int) < (s.size : Int)) = true := decide_eq_true (by omega)
              have hb9n : decide (p1 < s.size) = true := decide_eq_true hp1l
              rw [toksA_err p u hu0 5 hst] at hl he
              simp only [List.append_nil] at hl
              subst hl he
              clear hst hu HL HE hd hdec hx hx0 hy c3 c2
              go_wp2_with fail
              refine (rnext_at s (p : Int) _ (by omega) 47 1 true HG).mono ?_
              rintro e w3 ⟨rfl, rfl⟩
              go_wp2_with fail
              refine (rletter_any ((47 : Nat) : Int) _ false HC4).mono ?_
              rintro e w3 ⟨rfl, rfl⟩
              go_wp2_with fail
              refine (rdigit_any ((47 : Nat) : Int) _ false HC5).mono ?_
              rintro e w3 ⟨rfl, rfl⟩
              go_wp2
              go_ret3
              exact ⟨rfl, ⟨HB.out.alloc HB.out.size _⟩⟩
            · obtain ⟨p1, hp1e⟩ : ∃ p1, p + 1 = p1 := ⟨_, rfl⟩
              have hp1i : (p : Int) + 1 = (p1 : Int) := by omega
              have hcut1 := fun W => cut_str s p p1 (by omega) (by omega) W
              have hb9 : decide ((p1 : Int) < (s.size : Int)) = false := decide_eq_false (by omega)
              have hb9n : decide (p1 < s.size) = false := decide_eq_false (by omega)
              rw [toksA_err p u hu0 5 hst] at hl he
              simp only [List.append_nil] at hl
              subst hl he
              clear hst hu HL HE hd hdec hx hx0 c3 c2
              go_wp2_with fail
              refine (rnext_at s (p : Int) _ (by omega) 47 1 true HG).mono ?_
              rintro e w3 ⟨rfl, rfl⟩
              go_wp2_with fail
              refine (rletter_any ((47 : Nat) : Int) _ false HC4).mono ?_
              rintro e w3 ⟨rfl, rfl⟩
              go_wp2_with fail
              refine (rdigit_any ((47 : Nat) : Int) _ false HC5).mono ?_
              rintro e w3 ⟨rfl, rfl⟩
              go_wp2
              go_ret3
              exact ⟨rfl, ⟨HB.out.alloc HB.out.size _⟩⟩
          · have e5 : ((x : Int) == 47) = false := beq_eq_false_iff_ne.2 (by omega)
            by_cases c1 : r = 65533 ∧ d < 2
            · rw [if_pos c1] at hst
              rw [toksA_err p u hu0 9 hst] at hl he
              simp only [List.append_nil] at hl
              have HG := Aside0.mk (nextG_err s p hlt (by rw [hdec]; exact c1))
              subst hl he
              clear c1 hst hd hdec hx hu HL HE
              go_wp2_with fail
              refine (rnext_at s (p : Int) _ (by omega) 0 0 false HG).mono ?_
              rintro e w3 ⟨rfl, rfl⟩
              go_wp2
              go_ret3
              exact ⟨rfl, HB⟩
            · rw [if_neg c1, if_neg c2, if_neg c3] at hst
              have HG : Aside0 (nextG s (p : Int) = (r, d, true)) := ⟨by rw [nextG_fine s p hlt (by rw [hdec]; exact c1), hdec]⟩
              clear c1 c2 c3
              by_cases c4 : letterF (r : Int) = true
              · have HC4 := Aside0.mk c4
                rw [if_pos c4] at hst
                clear c4
                obtain ⟨n, hn⟩ : ∃ n, runA partF u = n := ⟨_, rfl⟩
                rw [hn] at hst
                obtain ⟨hb3, hb4, hb5⟩ := step_bound u hu0 1 n hst
                rw [toksA_tok p u hu0 0 n hst, ← hu, List.drop_drop] at hl he
                have HN : Aside0 (runA partF ((bs s).drop p) = n) := ⟨by rw [hu, hn]⟩
                have HL2 : Aside0 ((acc ++ [(1, p, n)]) ++ (toksA (p + n) ((bs s).drop (p + n))).1 = L) := ⟨by rw [List.append_assoc]; exact hl⟩
                have HE2 := Aside0.mk he
                obtain ⟨m, hm⟩ : ∃ m, p + n = m := ⟨_, rfl⟩
                have hmi : (p : Int) + (n : Int) = (m : Int) := by omega
                have hcut := fun W => cut_str s p m (by omega) (by omega) W
                obtain ⟨tx, htx⟩ : ∃ tx, s.extract p m = tx := ⟨_, rfl⟩
                simp only [htx] at hcut
                have hts : tx.size = n := by rw [← htx, ByteArray.size_extract]; omega
                have HX := Aside0.mk htx
                obtain ⟨p1, hp1e⟩ : ∃ p1, p + 1 = p1 := ⟨_, rfl⟩
                have hp1i : (p : Int) + 1 = (p1 : Int) := by omega
                have hcut1 := fun W => cut_str s p p1 (by omega) (by omega) W
                clear hst hu hl he HL HE hn htx hd hdec hx hx0
                go_wp2_with fail
                refine (rnext_at s (p : Int) _ (by omega) r d true HG).mono ?_
                rintro e w3 ⟨rfl, rfl⟩
                go_wp2_with fail
                refine (rletter_any (r : Int) _ true HC4).mono ?_
                rintro e w3 ⟨rfl, rfl⟩
                go_wp2_with fail
                refine (rword_part s p n _ hs (by omega) HN).mono ?_
                rintro e w3 ⟨rfl, rfl⟩
                rw [hm]
                go_wp2_with (at_builtin; go_must (refine print_append_cells (w0 := w) w.heap.size rfl _ _ 23 28 _ 3 32 rfl Tryd.underlying23 infoTok rfl (by omega) (by omega) _ acc.length (tvals s acc) [.int .i64 1, .string tx, .int .i64 (p : Int)] rfl (Eq.trans (b := .slice (some ⟨wr.heap.size + 1, 0, none⟩) 1 1) rfl (by simp)) rfl (by simp [Value.oneCell']) (by exact pw_own_below HO.out ((Below.refl _ _).alloc (Nat.le_refl _) _)) (by exact HB.out.alloc HB.out.size _) (by have := HB.out.size; simp; omega) (by omega) ?_; intro v1 w4 hO4 hB4 hg4 _; have hc4 : w4.cell? ⟨wr.heap.size, 1, none⟩ = some (.string tx) := (blk_cell (blk_grown (heap_alloc_new wr _) hg4 (own_far HO.out _ (Nat.le_refl _))) 1)))
                go_roundw
                case rel => exact ⟨v1, m, acc ++ [(1, p, n)], rfl, by go_num, by omega, by simp; omega, by rw [← hm]; exact HL2, by rw [← hm]; exact HE2, ⟨by rw [Toks, tvals_snoc, List.length_append]; simp only; rw [hm, HX.out]; exact hO4⟩, ⟨hB4⟩⟩
                case measure => simp [intOf]; omega
              · have HC4 : Aside0 (letterF (r : Int) = false) := ⟨by simpa using c4⟩
                rw [if_neg c4] at hst
                clear c4
                by_cases c5 : dgF r = true
                · have HC5 : Aside0 (digitF (r : Int) = true) := ⟨c5⟩
                  rw [if_pos c5] at hst
                  clear c5
                  obtain ⟨n, hn⟩ : ∃ n, runA dgF u = n := ⟨_, rfl⟩
                  rw [hn] at hst
                  obtain ⟨hb3, hb4, hb5⟩ := step_bound u hu0 2 n hst
                  rw [toksA_tok p u hu0 1 n hst, ← hu, List.drop_drop] at hl he
                  have HN : Aside0 (runA dgF ((bs s).drop p) = n) := ⟨by rw [hu, hn]⟩
                  have HL2 : Aside0 ((acc ++ [(2, p, n)]) ++ (toksA (p + n) ((bs s).drop (p + n))).1 = L) := ⟨by rw [List.append_assoc]; exact hl⟩
                  have HE2 := Aside0.mk he
                  obtain ⟨m, hm⟩ : ∃ m, p + n = m := ⟨_, rfl⟩
                  have hmi : (p : Int) + (n : Int) = (m : Int) := by omega
                  have hcut := fun W => cut_str s p m (by omega) (by omega) W
                  obtain ⟨tx, htx⟩ : ∃ tx, s.extract p m = tx := ⟨_, rfl⟩
                  simp only [htx] at hcut
                  have hts : tx.size = n := by rw [← htx, ByteArray.size_extract]; omega
                  have HX := Aside0.mk htx
                  obtain ⟨p1, hp1e⟩ : ∃ p1, p + 1 = p1 := ⟨_, rfl⟩
                  have hp1i : (p : Int) + 1 = (p1 : Int) := by omega
                  have hcut1 := fun W => cut_str s p p1 (by omega) (by omega) W
                  clear hst hu hl he HL HE hn htx hd hdec hx hx0
                  go_wp2_with fail
                  refine (rnext_at s (p : Int) _ (by omega) r d true HG).mono ?_
                  rintro e w3 ⟨rfl, rfl⟩
                  go_wp2_with fail
                  refine (rletter_any (r : Int) _ false HC4).mono ?_
                  rintro e w3 ⟨rfl, rfl⟩
                  go_wp2_with fail
                  refine (rdigit_any (r : Int) _ true HC5).mono ?_
                  rintro e w3 ⟨rfl, rfl⟩
                  go_wp2_with fail
                  refine (rword_digits s p n _ hs (by omega) HN).mono ?_
                  rintro e w3 ⟨rfl, rfl⟩
                  rw [hm]
                  go_wp2_with (at_builtin; go_must (refine print_append_cells (w0 := w) w.heap.size rfl _ _ 23 28 _ 3 32 rfl Tryd.underlying23 infoTok rfl (by omega) (by omega) _ acc.length (tvals s acc) [.int .i64 2, .string tx, .int .i64 (p : Int)] rfl (Eq.trans (b := .slice (some ⟨wr.heap.size + 1, 0, none⟩) 1 1) rfl (by simp)) rfl (by simp [Value.oneCell']) (by exact pw_own_below HO.out ((Below.refl _ _).alloc (Nat.le_refl _) _)) (by exact HB.out.alloc HB.out.size _) (by have := HB.out.size; simp; omega) (by omega) ?_; intro v1 w4 hO4 hB4 hg4 _; have hc4 : w4.cell? ⟨wr.heap.size, 1, none⟩ = some (.string tx) := (blk_cell (blk_grown (heap_alloc_new wr _) hg4 (own_far HO.out _ (Nat.le_refl _))) 1)))
                  go_roundw
                  case rel => exact ⟨v1, m, acc ++ [(2, p, n)], rfl, by go_num, by omega, by simp; omega, by rw [← hm]; exact HL2, by rw [← hm]; exact HE2, ⟨by rw [Toks, tvals_snoc, List.length_append]; simp only; rw [hm, HX.out]; exact hO4⟩, ⟨hB4⟩⟩
                  case measure => simp [intOf]; omega
                · have HC5 : Aside0 (digitF (r : Int) = false) := ⟨by simpa [dgF] using c5⟩
                  rw [if_neg c5] at hst
                  clear c5
                  by_cases c6 : signB x = true
                  · rw [if_pos c6] at hst
                    rw [toksA_tok p u hu0 2 1 hst, ← hu, List.drop_drop] at hl he
                    have HL2 : Aside0 ((acc ++ [(3, p, 1)]) ++ (toksA (p + 1) ((bs s).drop (p + 1))).1 = L) := ⟨by rw [List.append_assoc]; exact hl⟩
                    have HE2 := Aside0.mk he
                    obtain ⟨m, hm⟩ : ∃ m, p + 1 = m := ⟨_, rfl⟩
                    have hmi : (p : Int) + 1 = (m : Int) := by omega
                    have hcut := fun W => cut_str s p m (by omega) (by omega) W
                    obtain ⟨tx, htx⟩ : ∃ tx, s.extract p m = tx := ⟨_, rfl⟩
                    simp only [htx] at hcut
                    have hts : tx.size = 1 := by rw [← htx, ByteArray.size_extract]; omega
                    have HX := Aside0.mk htx
                    have hcs : x = 123 ∨ x = 125 ∨ x = 40 ∨ x = 41 ∨ x = 59 ∨ x = 61 ∨ x = 44 := by simp [signB] at c6; omega
                    clear hst hu hl he HL HE htx hd hdec hx hx0 c6
                    go_wp2_with fail
                    refine (rnext_at s (p : Int) _ (by omega) r d true HG).mono ?_
                    rintro e w3 ⟨rfl, rfl⟩
                    go_wp2_with fail
                    refine (rletter_any (r : Int) _ false HC4).mono ?_
                    rintro e w3 ⟨rfl, rfl⟩
                    go_wp2_with fail
                    refine (rdigit_any (r : Int) _ false HC5).mono ?_
                    rintro e w3 ⟨rfl, rfl⟩
                    rcases hcs with rfl | rfl | rfl | rfl | rfl | rfl | rfl
                    all_goals (
                      go_wp2_with (at_builtin; go_must (refine print_append_cells (w0 := w) w.heap.size rfl _ _ 23 28 _ 3 32 rfl Tryd.underlying23 infoTok rfl (by omega) (by omega) _ acc.length (tvals s acc) [.int .i64 3, .string tx, .int .i64 (p : Int)] rfl (Eq.trans (b := .slice (some ⟨wr.heap.size + 1, 0, none⟩) 1 1) rfl (by simp)) rfl (by simp [Value.oneCell']) (by exact pw_own_below HO.out ((Below.refl _ _).alloc (Nat.le_refl _) _)) (by exact HB.out.alloc HB.out.size _) (by have := HB.out.size; simp; omega) (by omega) ?_; intro v1 w4 hO4 hB4 hg4 _; have hc4 : w4.cell? ⟨wr.heap.size, 1, none⟩ = some (.string tx) := (blk_cell (blk_grown (heap_alloc_new wr _) hg4 (own_far HO.out _ (Nat.le_refl _))) 1)))
                      go_roundw
                      case rel => exact ⟨v1, m, acc ++ [(3, p, 1)], rfl, by go_num, by omega, by simp; omega, by rw [← hm]; exact HL2, by rw [← hm]; exact HE2, ⟨by rw [Toks, tvals_snoc, List.length_append]; simp only; rw [hm, HX.out]; exact hO4⟩, ⟨hB4⟩⟩
                      case measure => simp [intOf]; omega)
                  · rw [if_neg c6] at hst
                    have hns : x ≠ 123 ∧ x ≠ 125 ∧ x ≠ 40 ∧ x ≠ 41 ∧ x ≠ 59 ∧ x ≠ 61 ∧ x ≠ 44 := by simp [signB] at c6; omega
                    have z1 : ((x : Int) == 123) = false := beq_eq_false_iff_ne.2 (by omega)
                    have z2 : ((x : Int) == 125) = false := beq_eq_false_iff_ne.2 (by omega)
                    have z3 : ((x : Int) == 40) = false := beq_eq_false_iff_ne.2 (by omega)
                    have z4 : ((x : Int) == 41) = false := beq_eq_false_iff_ne.2 (by omega)
                    have z5 : ((x : Int) == 59) = false := beq_eq_false_iff_ne.2 (by omega)
                    have z6 : ((x : Int) == 61) = false := beq_eq_false_iff_ne.2 (by omega)
                    have z7 : ((x : Int) == 44) = false := beq_eq_false_iff_ne.2 (by omega)
                    clear c6
                    rw [toksA_err p u hu0 5 hst] at hl he
                    simp only [List.append_nil] at hl
                    subst hl he
                    obtain ⟨p1, hp1e⟩ : ∃ p1, p + 1 = p1 := ⟨_, rfl⟩
                    have hp1i : (p : Int) + 1 = (p1 : Int) := by omega
                    have hcut1 := fun W => cut_str s p p1 (by omega) (by omega) W
                    clear hst hu HL HE hd hdec hx hx0
                    go_wp2_with fail
                    refine (rnext_at s (p : Int) _ (by omega) r d true HG).mono ?_
                    rintro e w3 ⟨rfl, rfl⟩
                    go_wp2_with fail
                    refine (rletter_any (r : Int) _ false HC4).mono ?_
                    rintro e w3 ⟨rfl, rfl⟩
                    go_wp2_with fail
                    refine (rdigit_any (r : Int) _ false HC5).mono ?_
                    rintro e w3 ⟨rfl, rfl⟩
                    go_wp2
                    go_ret3
                    exact ⟨rfl, ⟨HB.out.alloc HB.out.size _⟩⟩
    · have hl := HL.out
      have he := HE.out
      rw [List.drop_eq_nil_of_le (by rw [bs_length]; omega), toksA_nil] at hl he
      simp only [List.append_nil] at hl
      subst hl he
      clear HL HE
      go_wp2
      go_ret3
      exact ⟨v0, rfl, HO, HB⟩
end Go.Proofs.YteipadogmdppgaaDoor
