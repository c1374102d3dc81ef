/- runes.Name. -/
import Derived.Test.YtabcaeckoghmpaaDoorRCount
import Derived.Test.YtabcaeckoghmpaaDoorRLetter
import Derived.Test.YtabcaeckoghmpaaDoorRKey
namespace Go.Proofs.YtabcaeckoghmpaaDoor
set_option linter.unusedVariables false
set_option linter.unusedSimpArgs false
open Go.RowKit Go.Proofs.YtabcaeckoghmpaaDoorW.PrintWords

/-- The first a letter; each other one a letter or a digit. -/
def chk : Bool → List Nat → Bool
  | _, [] => true
  | true, r :: l => letterF (r : Int) && chk false l
  | false, r :: l => (letterF (r : Int) || digitF (r : Int)) && chk false l
def nameG (s : ByteArray) : Bool := match runesG s with
  | none => false
  | some l => decide (1 ≤ l.length) && (decide (l.length ≤ 20) && (!keyF s && chk true l))

set_option maxRecDepth 100000 in
set_option maxHeartbeats 1000000 in
theorem name_run (s : ByteArray) (w : World) (hs : s.size ≤ 4611686018427387904) (hT : Tabs w) (l : List Nat) (hl : Aside0 (runesG s = some l)) (h1 : 1 ≤ l.length) (h2 : l.length ≤ 20) (hk : Aside0 (keyF s = false)) (v : Bool) (hv : Aside0 (chk true l = v)) :
    Calls Tryd.prog 29 #[.string s] w fun e w' => e = .returned (.bool v) ∧ Below w.heap.size w w' := by
  have HT := Aside0.mk hT
  obtain ⟨c, hc⟩ : ∃ c, l.length = c := ⟨_, rfl⟩
  rw [hc] at h1 h2
  have HC := Aside0.mk (show countG s = c by rw [countG, hl.out]; exact hc)
  clear hT hc
  go_enter Tryd.func29, Tryd.ntmps29
  go_wp2_with fail
  refine (count_any s _ hs HT.out c HC).mono ?_
  rintro e w0 ⟨rfl, hB0⟩
  have HB0 := Aside0.mk hB0
  have d1 : decide ((c : Int) < 1) = false := decide_eq_false (by omega)
  have d2 : decide (20 < (c : Int)) = false := decide_eq_false (by omega)
  have d3 : decide (c < 1) = false := decide_eq_false (by omega)
  have d4 : decide (20 < c) = false := decide_eq_false (by omega)
  clear hB0
  go_wp2_with fail
  refine (key_any s _ false hk).mono ?_
  rintro e w1 ⟨rfl, rfl⟩
  go_wp2_with fail
  go_loopw [4] (fun _ wr => ∃ (pos k : Nat) (l' : List Nat), Aside0 (wr.heap[w0.heap.size]? = some (.stringIter s pos)) ∧ pos ≤ s.size ∧ Aside0 (runesF s k pos = some l') ∧ Aside0 (chk (pos == 0) l' = v) ∧ Aside0 (s.size ≤ pos + k) ∧ Aside0 (Below w0.heap.size w0 wr)) (fun _ wr => s.size - wr.iterPos w0.heap.size)
  case atStart => exact ⟨0, s.size, l, ⟨World.iter_heap w0 s 0⟩, by omega, hl, hv, ⟨by omega⟩, ⟨(Below.refl _ _).alloc (Nat.le_refl _) _⟩⟩
  case round =>
    obtain ⟨pos, k, l', HK, hpos, HL, HV, HF, HB⟩ := hrel
    by_cases hp : pos < s.size
    · obtain ⟨r, n, hd⟩ : ∃ r n, Utf8.decode s pos = (r, n) := ⟨_, _, rfl⟩
      have hnx : ∀ ty, (Instr.next (.pointer (some ⟨w0.heap.size, 0, none⟩)) true ty).run Tryd.prog wr = _ := fun ty => Lib.run_next_any_at wr w0.heap.size s pos ty HK.out hp
      have hn1 := dec_pos s pos hp
      have hn2 := dec_le s pos hp
      rw [hd] at hn1 hn2
      simp only [hd] at hnx
      simp only at hn1 hn2
      obtain ⟨k, rfl⟩ : ∃ k', k = k' + 1 := ⟨k - 1, by have := HF.out; omega⟩
      have hst := HL.out
      rw [runesF_step s k pos hp, hd] at hst
      simp only at hst
      split at hst
      · cases hst
      · obtain ⟨l2, hl2, rfl⟩ := Option.map_eq_some_iff.1 hst
        have HL2 := Aside0.mk hl2
        have HK2 := Aside0.mk (Lib.iterAt_heap wr w0.heap.size s pos (pos + n) HK.out)
        have HB2 := Aside0.mk (Lib.below_iterAt HB.out (Nat.le_refl _) s (pos + n))
        have hmeas := Aside0.mk (iter_pos HK.out)
        have HP := Aside0.mk (show ((pos + n == 0) : Bool) = false by rw [beq_eq_false_iff_ne]; omega)
        obtain ⟨c1, H1⟩ : ∃ b, Aside0 (letterF (r : Int) = b) := ⟨_, ⟨rfl⟩⟩
        obtain ⟨c2, H2⟩ : ∃ b, Aside0 (digitF (r : Int) = b) := ⟨_, ⟨rfl⟩⟩
        clear hd hst hl2
        go_wp2_with fail
        refine (letter_any (r : Int) _ c1 H1).mono ?_
        rintro e w2 ⟨rfl, rfl⟩
        cases c1 with
        | true =>
          have HV2 := Aside0.mk (show chk false l2 = v by
            have h := HV.out
            cases hp0 : (pos == 0) with
            | true => rw [hp0, chk, H1.out, Bool.true_and] at h; exact h
            | false => rw [hp0, chk, H1.out, Bool.true_or, Bool.true_and] at h; exact h)
          go_wp2
          go_roundw
          case rel => exact ⟨pos + n, k, l2, HK2, hn2.1, HL2, ⟨by rw [HP.out]; exact HV2.out⟩, ⟨by have := HF.out; omega⟩, HB2⟩
          case measure => rw [iter_pos HK2.out, hmeas.out]; omega
        | false =>
          by_cases hp0 : pos = 0
          · have hvf : v = false := by
              have h := HV.out
              rw [hp0] at h
              rw [← h]
              show (letterF (r : Int) && chk false l2) = false
              rw [H1.out]
              rfl
            have hz : ((pos : Int) == 0) = true := by rw [beq_iff_eq]; omega
            have HP0 := Aside0.mk hp0
            subst hvf
            clear hp0
            go_wp2
            go_ret
            exact ⟨rfl, HB0.out.trans (HB2.out.mono HB0.out.size)⟩
          · have hz : ((pos : Int) == 0) = false := by rw [beq_eq_false_iff_ne]; omega
            have hz2 := Aside0.mk (show ((pos == 0) : Bool) = false by rw [beq_eq_false_iff_ne]; exact hp0)
            go_wp2_with fail
            refine (digit_any (r : Int) _ c2 H2).mono ?_
            rintro e w3 ⟨rfl, rfl⟩
            cases c2 with
            | true =>
              have HV2 := Aside0.mk (show chk false l2 = v by
                have h := HV.out
                rw [hz2.out, chk, H1.out, H2.out, Bool.or_true, Bool.true_and] at h; exact h)
              go_wp2
              go_roundw
              case rel => exact ⟨pos + n, k, l2, HK2, hn2.1, HL2, ⟨by rw [HP.out]; exact HV2.out⟩, ⟨by have := HF.out; omega⟩, HB2⟩
              case measure => rw [iter_pos HK2.out, hmeas.out]; omega
            | false =>
              have hvf : v = false := by
                have h := HV.out
                rw [hz2.out, chk, H1.out, H2.out] at h
                rw [← h]
                rfl
              subst hvf
              go_wp2
              go_ret
              exact ⟨rfl, HB0.out.trans (HB2.out.mono HB0.out.size)⟩
    · have hnx : ∀ ty, (Instr.next (.pointer (some ⟨w0.heap.size, 0, none⟩)) true ty).run Tryd.prog wr = _ := fun ty => Lib.run_next_end_at wr w0.heap.size s pos ty HK.out hp
      have hvt : v = true := by
        have h := HL.out
        rw [runesF_end s k pos hp] at h
        have h2 := HV.out
        rw [← (Option.some.inj h)] at h2
        rw [← h2]
        cases (pos == 0) <;> rfl
      subst hvt
      go_wp2
      go_ret
      exact ⟨rfl, HB0.out.trans (HB.out.mono HB0.out.size)⟩

theorem name_count (s : ByteArray) (w : World) (hs : s.size ≤ 4611686018427387904) (hT : Tabs w) (c : Nat) (hc : Aside0 (countG s = c)) (h : c < 1 ∨ 20 < c) :
    Calls Tryd.prog 29 #[.string s] w fun e w' => e = .returned (.bool false) ∧ Below w.heap.size w w' := by
  have HT := Aside0.mk hT
  clear hT
  have hcs : c ≤ s.size := by
    rw [← hc.out, countG]
    cases h2 : runesG s with
    | none => simp
    | some l => exact runesF_le _ _ _ _ h2
  go_enter Tryd.func29, Tryd.ntmps29
  go_wp2_with fail
  refine (count_any s _ hs HT.out c hc).mono ?_
  rintro e w0 ⟨rfl, hB0⟩
  have HB0 := Aside0.mk hB0
  clear hB0
  by_cases h1 : c < 1
  · clear h
    go_wp2
    go_ret
    exact ⟨rfl, HB0.out⟩
  · have h2 : 20 < c := by omega
    clear h
    go_wp2
    go_ret
    exact ⟨rfl, HB0.out⟩

theorem name_key (s : ByteArray) (w : World) (hs : s.size ≤ 4611686018427387904) (hT : Tabs w) (c : Nat) (hc : Aside0 (countG s = c)) (h1 : 1 ≤ c) (h2 : c ≤ 20) (hk : Aside0 (keyF s = true)) :
    Calls Tryd.prog 29 #[.string s] w fun e w' => e = .returned (.bool false) ∧ Below w.heap.size w w' := by
  have HT := Aside0.mk hT
  clear hT
  go_enter Tryd.func29, Tryd.ntmps29
  go_wp2_with fail
  refine (count_any s _ hs HT.out c hc).mono ?_
  rintro e w0 ⟨rfl, hB0⟩
  have HB0 := Aside0.mk hB0
  clear hB0
  go_wp2_with fail
  refine (key_any s _ true hk).mono ?_
  rintro e w1 ⟨rfl, rfl⟩
  go_wp2
  go_ret
  exact ⟨rfl, HB0.out⟩

theorem name_any (s : ByteArray) (w : World) (hs : s.size ≤ 4611686018427387904) (hT : Tabs w) (v : Bool) (hv : Aside0 (nameG s = v)) :
    Calls Tryd.prog 29 #[.string s] w fun e w' => e = .returned (.bool v) ∧ Below w.heap.size w w' := by
  have h := hv.out
  rw [nameG] at h
  cases hl : runesG s with
  | none =>
    rw [hl] at h
    subst h
    exact name_count s w hs hT 0 ⟨by rw [countG, hl]; rfl⟩ (.inl (by omega))
  | some l =>
    rw [hl] at h
    simp only at h
    have hc : countG s = l.length := by rw [countG, hl]; rfl
    by_cases h1 : 1 ≤ l.length
    · by_cases h2 : l.length ≤ 20
      · rw [decide_eq_true h1, decide_eq_true h2, Bool.true_and, Bool.true_and] at h
        cases hk : keyF s with
        | true =>
          rw [hk] at h
          subst h
          exact name_key s w hs hT _ ⟨hc⟩ h1 h2 ⟨hk⟩
        | false =>
          rw [hk] at h
          exact name_run s w hs hT l ⟨hl⟩ h1 h2 ⟨hk⟩ v ⟨by rw [← h]; rfl⟩
      · rw [decide_eq_false h2, Bool.false_and, Bool.and_false] at h
        subst h
        exact name_count s w hs hT _ ⟨hc⟩ (.inr (by omega))
    · rw [decide_eq_false h1, Bool.false_and] at h
      subst h
      exact name_count s w hs hT _ ⟨hc⟩ (.inl (by omega))
end Go.Proofs.YtabcaeckoghmpaaDoor
