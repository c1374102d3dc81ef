/- The law RunesCuts. -/
import Derived.Test.YtbhakfaldedinaaDoorRCutPure
import Derived.Test.YtbhakfaldedinaaDoorRAwake
namespace Go.Proofs.YtbhakfaldedinaaDoor
set_option linter.unusedVariables false
set_option linter.unusedSimpArgs false
open Go.RowKit Go.Proofs.YtbhakfaldedinaaDoorW.PrintWords

/-- Where the cut is: at runes' end, or within one. -/
structure CutAt (s : ByteArray) (k : Nat) (n : Nat) (p : Nat) where mk ::
  (pre rest : List Nat)
  (behind : runesA s p = some rest)
  (all : pre.length + rest.length = n)
  (head : p ≤ k → runesG (s.extract 0 k) = (runesA (s.extract 0 k) p).map (pre ++ ·))
  (over : k < p → runesG (s.extract 0 k) = none)
theorem cut_zero (s : ByteArray) (k n : Nat) (l : List Nat) (h : runesG s = some l) (hn : l.length = n) : Nonempty (CutAt s k n 0) :=
  ⟨⟨[], l, by rw [runesA_zero, h], by simpa using hn, fun _ => by rw [runesA_zero]; simp, fun h => absurd h (by omega)⟩⟩
theorem cut_next (s : ByteArray) (k n p : Nat) (hk : k ≤ s.size) (hp : p < k) (h : Nonempty (CutAt s k n p)) :
    ∃ r d : Nat, nextG s (p : Int) = (r, d, true) ∧ 1 ≤ d ∧ p + d ≤ s.size ∧ d ≤ 4 ∧ Nonempty (CutAt s k n (p + d)) := by
  obtain ⟨⟨pre, rest, h1, h2, h3, h4⟩⟩ := h
  have hps : p < s.size := by omega
  have hd := dec_pos s p hps
  obtain ⟨hle, hle4, _⟩ := dec_le s p hps
  rw [runesA_step s p hps] at h1
  by_cases hbad : (Utf8.decode s p).1 = 65533 ∧ (Utf8.decode s p).2 < 2
  · rw [if_pos hbad] at h1; cases h1
  · rw [if_neg hbad] at h1
    obtain ⟨rest', h5, rfl⟩ := Option.map_eq_some_iff.1 h1
    have hc := dec_take s k p hk hp
    have h6 := h3 (by omega)
    rw [runesA_step _ p (by rw [size_take s k hk]; exact hp)] at h6
    refine ⟨(Utf8.decode s p).1, (Utf8.decode s p).2, ?_, hd, hle, hle4, ⟨⟨pre ++ [(Utf8.decode s p).1], rest', h5, by simp at h2 ⊢; omega, ?_, ?_⟩⟩⟩
    · rw [nextG, if_neg (by omega)]
      simp only [Int.toNat_natCast]
      rw [if_neg hbad]
    · intro h7
      rw [hc.1 h7, if_neg hbad] at h6
      rw [h6, Option.map_map]
      congr 1
      funext x
      simp
    · intro h7
      rw [hc.2 h7, if_pos ⟨rfl, by decide⟩] at h6
      rw [h6]
      rfl
theorem cut_end (s : ByteArray) (k n p : Nat) (hk : k ≤ s.size) (hp : ¬ p < k) (h : Nonempty (CutAt s k n p)) :
    validG (s.extract 0 k) = (p == k) ∧ (p = k → validG (s.extract k s.size) = true ∧ ∃ a b : Nat, countG (s.extract 0 k) = a ∧ countG (s.extract k s.size) = b ∧ a + b = n) := by
  obtain ⟨⟨pre, rest, h1, h2, h3, h4⟩⟩ := h
  by_cases e : p = k
  · subst e
    have h5 := h3 (by omega)
    rw [runesA_end _ p (by rw [size_take s p hk]; omega)] at h5
    have h6 := runesG_drop s p hk
    rw [h1] at h6
    refine ⟨by rw [validG_runes, h5]; simp, fun _ => ⟨by rw [validG_runes, h6]; rfl, pre.length, rest.length, by rw [countG, h5]; simp, by rw [countG, h6]; rfl, h2⟩⟩
  · have h5 := h4 (by omega)
    refine ⟨by rw [validG_runes, h5]; simp [e], fun h => absurd h e⟩

attribute [local irreducible] wpQuiet
set_option maxRecDepth 100000 in
set_option maxHeartbeats 8000000 in
theorem runescuts_run (s : ByteArray) (a : Int) (w : World) (hs : s.size ≤ 500) (hs0 : ¬ s.size = 0) (ha : -9223372036854775808 ≤ a ∧ a ≤ 9223372036854775807) (l : List Nat) (hl : Aside0 (runesG s = some l)) (hT : Tabs w) :
    Calls Tryd.prog 5 #[.string s, .int .i64 a] w fun e w' => e = .returned (.bool true) ∧ Below w.heap.size w w' := by
  have HT := Aside0.mk hT
  clear hT
  have hv : Aside0 (validG s = true) := ⟨by rw [validG_runes, hl.out]; rfl⟩
  have HN : Aside0 (countG s = l.length) := ⟨by rw [countG, hl.out]; rfl⟩
  have h500 : decide (500 < s.size) = false := decide_eq_false (by omega)
  have h500i : decide ((500 : Int) < (s.size : Int)) = false := decide_eq_false (by omega)
  have hz : ((s.size : Int) == 0) = false := beq_eq_false_iff_ne.2 (by omega)
  have hz' : (s.size == 0) = false := beq_eq_false_iff_ne.2 (by omega)
  have hmod1 := Int.tmod_lt_of_pos a (show (0 : Int) < (s.size : Int) + 1 by omega)
  have hmod2 : -((s.size : Int) + 1) < a.tmod ((s.size : Int) + 1) := by
    have := Int.neg_tmod a ((s.size : Int) + 1)
    have h2 := Int.tmod_lt_of_pos (-a) (show (0 : Int) < (s.size : Int) + 1 by omega)
    omega
  have hcase : ∃ k : Nat, k ≤ s.size ∧ ((decide (a.tmod ((s.size : Int) + 1) < 0) = false ∧ a.tmod ((s.size : Int) + 1) = (k : Int)) ∨
      (decide (a.tmod ((s.size : Int) + 1) < 0) = true ∧ wrap64 (wrap64 (a.tmod ((s.size : Int) + 1) + (s.size : Int)) + 1) = (k : Int))) := by
    by_cases h : a.tmod ((s.size : Int) + 1) < 0
    · refine ⟨(a.tmod ((s.size : Int) + 1) + (s.size : Int) + 1).toNat, by omega, .inr ⟨decide_eq_true h, ?_⟩⟩
      have hw64 : ∀ n : Int, -9223372036854775808 ≤ n ∧ n ≤ 9223372036854775807 → wrap64 n = n := by intro n h; unfold wrap64; omega
      rw [hw64 (a.tmod ((s.size : Int) + 1) + (s.size : Int)) (by omega), hw64 _ (by omega)]
      omega
    · exact ⟨(a.tmod ((s.size : Int) + 1)).toNat, by omega, .inl ⟨decide_eq_false h, by omega⟩⟩
  clear hmod1 hmod2
  obtain ⟨k, hk, hcase⟩ := hcase
  have HC0 := Aside0.mk (cut_zero s k l.length l hl.out rfl)
  go_enter Tryd.func5, Tryd.ntmps5
  go_wp2_with fail
  refine (valid_any s _ (by omega) HT.out true hv).mono ?_
  rintro e w1 ⟨rfl, hB1⟩
  have HB1 := Aside0.mk hB1
  clear hB1
  rcases hcase with ⟨hd, hW⟩ | ⟨hd, hW⟩
  all_goals (
    go_wp2_with fail
    try rw [hW]
    clear hd hW h500 h500i hz hz' hs0 ha hv
    go_loopw [6] (fun u wr => ∃ p : Nat, u = .int .i64 (p : Int) ∧ p ≤ s.size ∧ Aside0 (Nonempty (CutAt s k l.length p)) ∧ Aside0 (Below w.heap.size w wr)) (fun u _ => k - (intOf u).toNat)
    case atStart => exact ⟨0, rfl, by omega, HC0, HB1⟩
    case round =>
      obtain ⟨p, rfl, hp, HP, HBr⟩ := hrel
      by_cases hlt : p < k
      · obtain ⟨r, d, hN, hd1, hd2, hd3, hP2⟩ := cut_next s k l.length p hk hlt HP.out
        have HG := Aside0.mk hN
        have HP2 := Aside0.mk hP2
        clear hN hP2
        go_wp2_with fail
        refine (next_at s (p : Int) _ (by omega) (tabs_below HT.out HBr.out) r d true HG).mono ?_
        rintro e w2 ⟨rfl, hB2⟩
        have HB2 := Aside0.mk (HBr.out.trans (hB2.mono HBr.out.size))
        clear hB2
        go_wp2
        go_roundw
        case rel => exact ⟨p + d, by go_num, by omega, HP2, HB2⟩
        case measure => simp [intOf]; omega
      · obtain ⟨hV, hE⟩ := cut_end s k l.length p hk hlt HP.out
        have HB9 := HBr
        clear HBr HP HC0 HB1
        have hz1 := size_take s k hk
        have hz2 := size_drop s k
        obtain ⟨t1, ht1⟩ : ∃ t, s.extract 0 k = t := ⟨_, rfl⟩
        obtain ⟨t2, ht2⟩ : ∃ t, s.extract k s.size = t := ⟨_, rfl⟩
        rw [ht1] at hV hE hz1
        rw [ht2] at hE hz2
        by_cases hpk : p = k
        · obtain ⟨hv2, c1, c2, hc1, hc2, hc⟩ := hE hpk
          rw [hpk, beq_self_eq_true] at hV
          have HV1 := Aside0.mk hV
          have HV2 := Aside0.mk hv2
          have HC1 := Aside0.mk hc1
          have HC2 := Aside0.mk hc2
          obtain ⟨c, hcc⟩ : ∃ c, l.length = c := ⟨_, rfl⟩
          have HN2 : Aside0 (countG s = c) := ⟨by rw [HN.out, hcc]⟩
          have hsum : c ≤ 500 := by
            rw [← hcc]
            have := runesF_le s s.size 0 l hl.out
            omega
          have hci : (c1 : Int) + (c2 : Int) = (c : Int) := by omega
          have hwc : (IntKind.i64.wrap (c : Int) == (c : Int)) = true := by
            have : IntKind.i64.wrap (c : Int) = (c : Int) := Go.wrap_small _ (by omega) (by omega)
            exact beq_iff_eq.2 this
          subst hpk
          clear hV hE hv2 hc1 hc2 hc hcc HN hl
          go_wp2_with fail
          refine wp_region_calm_lit (by kernel_rfl) (by kernel_rfl) (fun hne => ?_)
          repeat
            (apply wpQuiet_step
             intro K hK
             go_simp
             first
             | (apply hK; clear hK K)
             | (apply Exists.intro
                refine ⟨fun x => ?_, ?_⟩
                first
                | (go_at_call 14; exact Later.calls (valid_any _ _ (by omega) (tabs_below HT.out (HB9.out.trans (x.below.mono HB9.out.size))) _ (by assumption)))
                | (go_at_call 16; exact Later.calls (count_any _ _ (by omega) (tabs_below HT.out (HB9.out.trans (x.below.mono HB9.out.size))) _ (by assumption)))
                | (go_at_call 13; exact Later.calls (awake_any _ (tabs_below HT.out (HB9.out.trans (x.below.mono HB9.out.size)))))
                apply hK
                clear hK K))
          apply wpQuiet_nil
          rintro _ ⟨x, rfl⟩
          go_wp2
          go_ret
          exact ⟨rfl, HB9.out.trans (x.below.mono HB9.out.size)⟩
        · rw [beq_eq_false_iff_ne.2 hpk] at hV
          have HV1 := Aside0.mk hV
          have hb1 : ((p : Int) == (k : Int)) = false := beq_eq_false_iff_ne.2 (by omega)
          have hb2 : ((p : Int) != (k : Int)) = true := by rw [bne, hb1]; rfl
          clear hV hE HN hl
          go_wp2_with fail
          refine wp_region_calm_lit (by kernel_rfl) (by kernel_rfl) (fun hne => ?_)
          repeat
            (apply wpQuiet_step
             intro K hK
             go_simp
             first
             | (apply hK; clear hK K)
             | (apply Exists.intro
                refine ⟨fun x => ?_, ?_⟩
                first
                | (go_at_call 14; exact Later.calls (valid_any _ _ (by omega) (tabs_below HT.out (HB9.out.trans (x.below.mono HB9.out.size))) _ (by assumption)))
                | (go_at_call 16; exact Later.calls (count_any _ _ (by omega) (tabs_below HT.out (HB9.out.trans (x.below.mono HB9.out.size))) _ (by assumption)))
                | (go_at_call 13; exact Later.calls (awake_any _ (tabs_below HT.out (HB9.out.trans (x.below.mono HB9.out.size)))))
                apply hK
                clear hK K))
          apply wpQuiet_nil
          rintro _ ⟨x, rfl⟩
          go_wp2
          go_ret
          exact ⟨rfl, HB9.out.trans (x.below.mono HB9.out.size)⟩)
end Go.Proofs.YtbhakfaldedinaaDoor
