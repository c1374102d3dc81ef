/- The law LexFirst. -/
import Derived.Test.YteipadogmdppgaaDoorLAwake
namespace Go.Proofs.YteipadogmdppgaaDoor
set_option linter.unusedVariables false
set_option linter.unusedSimpArgs false
open Go.RowKit Go.Proofs.YteipadogmdppgaaDoorW.PrintWords

theorem steps_last {p q : Nat} {u v : List Nat} {l : List (Nat × Nat × Nat)} (h : Steps p u l q v) : ∀ t ∈ l, p ≤ t.2.1 ∧ t.2.1 < q := by
  induction h with
  | nil p u => intro t ht; cases ht
  | @blank p u n l q v hu h r ih =>
    intro t ht
    have := ih t ht
    omega
  | @tok p u k n l q v hu h r ih =>
    intro t ht
    have hb := step_bound _ hu _ _ h
    obtain ⟨j, _, hq, _⟩ := r.len
    rcases List.mem_cons.1 ht with rfl | ht
    · simp only; omega
    · have := ih t ht
      omega
/-- Where a text has an error: what is ahead of it, what is behind. -/
theorem first_pure (s : ByteArray) (L : List (Nat × Nat × Nat)) (a er : Nat) (h : toksA 0 (bs s) = (L, some (a, er))) :
    a < s.size ∧ er ≠ 0 ∧ toksA 0 (bs (s.extract 0 a)) = (L, none) ∧ toksA 0 (bs (s.extract a s.size)) = ([], some (0, er)) ∧ ∀ t ∈ L, t.2.1 < a := by
  obtain ⟨v, h1, h2, h3⟩ := (toks_steps (bs s).length 0 (bs s) (Nat.le_refl _)).2 L a er h
  obtain ⟨j, hj1, hj2, hj3⟩ := h1.len
  rw [Nat.zero_add] at hj2
  subst hj2
  have hlen : a < s.size := by
    rcases Nat.lt_or_ge a s.size with h | h
    · exact h
    · exfalso
      apply h2
      rw [hj1, List.drop_eq_nil_of_le (by rw [bs_length]; exact h)]
  have hsw := h1.swap v [] (.inl rfl) ((bs s).take a) (by rw [hj1, List.take_append_drop]) rfl (by rw [List.length_take, bs_length]; omega)
  rw [List.append_nil] at hsw
  refine ⟨hlen, ?_, ?_, ?_, fun t ht => (steps_last h1 t ht).2⟩
  · rintro rfl
    unfold stepL at h3
    repeat' split at h3
    all_goals cases h3
  · rw [bs_extract, List.drop_zero, Nat.sub_zero]
    exact hsw.toks_end
  · have e : bs (s.extract a s.size) = v := by rw [bs_extract, hj1, List.take_of_length_le (by rw [List.length_drop, bs_length]; omega)]
    rw [e]
    exact toksA_err 0 v h2 er h3

set_option maxRecDepth 100000 in
set_option maxHeartbeats 1000000 in
theorem lexfirst_walk (s : ByteArray) (w : World) (hs : s.size ≤ 140737488351232) (hT : Tabs w) :
    Calls Tryd.prog 7 #[.string s] w fun e w' => e = .returned (.bool true) ∧ Below w.heap.size w w' := by
  have HT := Aside0.mk hT
  clear hT
  by_cases h1 : 3000 < s.size
  · have hb1 : decide (3000 < s.size) = true := decide_eq_true h1
    have hb2 : decide ((3000 : Int) < (s.size : Int)) = true := decide_eq_true (by omega)
    go_enter Tryd.func7, Tryd.ntmps7
    go_wp2_with fail
    refine (awake_any _ HT.out).mono ?_
    rintro e w1 ⟨rfl, hB1⟩
    have HB1 := Aside0.mk hB1
    clear hB1
    go_wp2
    go_ret
    exact ⟨rfl, HB1.out⟩
  · have hb1 : decide (3000 < s.size) = false := decide_eq_false h1
    have hb2 : decide ((3000 : Int) < (s.size : Int)) = false := decide_eq_false (by omega)
    obtain ⟨L, E, hR⟩ : ∃ L E, toksA 0 (bs s) = (L, E) := ⟨_, _, rfl⟩
    have HR := Aside0.mk hR
    clear hR
    cases E with
    | none =>
      go_enter Tryd.func7, Tryd.ntmps7
      go_wp2_with fail
      refine (tokens_ok s _ (by omega) HT.out L HR).mono ?_
      rintro e w1 ⟨A, c, rfl, HA, HB1⟩
      go_wp2_with fail
      refine (awake_any _ (tabs_below HT.out HB1.out)).mono ?_
      rintro e w2 ⟨rfl, hB2⟩
      have HB2 := Aside0.mk (HB1.out.trans (hB2.mono HB1.out.size))
      clear hB2
      go_wp2
      go_ret
      exact ⟨rfl, HB2.out⟩
    | some ae =>
      obtain ⟨a, er⟩ := ae
      obtain ⟨f1, f2, f3, f4, f5⟩ := first_pure s L a er HR.out
      obtain ⟨t1, ht1⟩ : ∃ t, s.extract 0 a = t := ⟨_, rfl⟩
      obtain ⟨t2, ht2⟩ : ∃ t, s.extract a s.size = t := ⟨_, rfl⟩
      have hz1 : t1.size ≤ s.size := by rw [← ht1, ByteArray.size_extract]; omega
      have hz2 : t2.size ≤ s.size := by rw [← ht2, ByteArray.size_extract]; omega
      rw [ht1] at f3
      rw [ht2] at f4
      have F3 := Aside0.mk f3
      have F4 := Aside0.mk f4
      have F5 := Aside0.mk f5
      have hc1 : ((er : Int) == 0) = false := beq_eq_false_iff_ne.2 (by omega)
      have hc2 : decide ((s.size : Int) ≤ (a : Int)) = false := decide_eq_false (by omega)
      have hc3 : decide (s.size ≤ a) = false := decide_eq_false (by omega)
      clear f3 f4 f5 f2
      go_enter Tryd.func7, Tryd.ntmps7
      go_wp2_with fail
      refine (tokens_err s _ (by omega) HT.out L a er HR).mono ?_
      rintro e w1 ⟨rfl, HB1⟩
      go_wp2_with fail
      refine (tokens_ok t1 _ (by omega) (tabs_below HT.out HB1.out) L F3).mono ?_
      rintro e w2 ⟨A, c, rfl, HA, hB2⟩
      have HB2 := Aside0.mk (HB1.out.trans (hB2.out.mono HB1.out.size))
      clear hB2
      go_wp2_with fail
      refine (tokens_err t2 _ (by omega) (tabs_below HT.out HB2.out) [] 0 er F4).mono ?_
      rintro e w3 ⟨rfl, hB3⟩
      have HB3 := Aside0.mk (HB2.out.trans (hB3.out.mono HB2.out.size))
      have HA3 := Aside0.mk (HA.out.below hB3.out)
      clear hB3
      rcases Nat.eq_zero_or_pos L.length with h0 | h0
      · have hl0 : ((L.length : Int) == 0) = true := beq_iff_eq.2 (by omega)
        go_wp2_with fail
        refine (awake_any _ (tabs_below HT.out HB3.out)).mono ?_
        rintro e w4 ⟨rfl, hB4⟩
        have HB4 := Aside0.mk (HB3.out.trans (hB4.mono HB3.out.size))
        clear hB4
        go_wp2
        go_ret
        exact ⟨rfl, HB4.out⟩
      · have hl0 : ((L.length : Int) == 0) = false := beq_eq_false_iff_ne.2 (by omega)
        obtain ⟨g, rfl, hcell⟩ := HA3.out.2 h0
        have hlm := HA3.out.1
        obtain ⟨m, hm⟩ : ∃ m, L.length = m + 1 := ⟨L.length - 1, by omega⟩
        obtain ⟨t, ht⟩ : ∃ t, L[m]? = some t := ⟨L[m], List.getElem?_eq_getElem (by omega)⟩
        obtain ⟨_, _, hc⟩ := hcell m t ht
        have htl := F5.out t (List.mem_of_getElem? ht)
        obtain ⟨q, hq⟩ : ∃ q, t.2.1 = q := ⟨_, rfl⟩
        rw [hq] at hc htl
        have hd : decide ((q : Int) < (a : Int)) = true := decide_eq_true (by omega)
        have hd2 : decide (q < a) = true := decide_eq_true htl
        have hli : (L.length : Int) - 1 = (m : Int) := by omega
        clear hcell hm ht hq
        go_wp2_with fail
        refine (awake_any _ (tabs_below HT.out HB3.out)).mono ?_
        rintro e w4 ⟨rfl, hB4⟩
        have HB4 := Aside0.mk (HB3.out.trans (hB4.mono HB3.out.size))
        clear hB4
        go_wp2
        go_ret
        exact ⟨rfl, HB4.out⟩
end Go.Proofs.YteipadogmdppgaaDoor
