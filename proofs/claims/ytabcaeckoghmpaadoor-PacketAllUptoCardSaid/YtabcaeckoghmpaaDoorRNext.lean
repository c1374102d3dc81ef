/- runes.Next: which rune stands at a place. -/
import Derived.Test.YtabcaeckoghmpaaDoorBase
import Derived.Test.YtabcaeckoghmpaaDoorShelf
import Derived.Lib.RuneCountTail
namespace Go.Proofs.YtabcaeckoghmpaaDoor
set_option linter.unusedVariables false
set_option linter.unusedSimpArgs false
open Go.RowKit Go.Proofs.YtabcaeckoghmpaaDoorW.PrintWords

abbrev Tabs (w : World) : Prop := Lib.Utf8Tabs 0 1 w
theorem tabs_below {w w1 : World} (h : Tabs w) (hb : Below w.heap.size w w1) : Tabs w1 :=
  ⟨fun c hc => pw_cell_below hb (h.1 c hc), fun i hi => ⟨pw_cell_below hb (h.2 i hi).1, pw_cell_below hb (h.2 i hi).2⟩⟩

/-- Which rune stands at a place, how many bytes it has, whether there is one. -/
def nextG (s : ByteArray) (a : Int) : Nat × Nat × Bool :=
  if a < 0 ∨ (s.size : Int) ≤ a then (0, 0, false)
  else if (Utf8.decode s a.toNat).1 = 65533 ∧ (Utf8.decode s a.toNat).2 < 2 then (0, 0, false)
  else ((Utf8.decode s a.toNat).1, (Utf8.decode s a.toNat).2, true)

theorem next_at (s : ByteArray) (a : Int) (w : World) (hs : s.size ≤ 9223372036854775807) (hT : Tabs w) (r n : Nat) (ok : Bool) (hG : Aside0 (nextG s a = (r, n, ok))) :
    Calls Tryd.prog 44 #[.string s, .int .i64 a] w fun e w' => e = .returned (.tuple #[.int .i32 (r : Int), .int .i64 (n : Int), .bool ok]) ∧ Below w.heap.size w w' := by
  have HT := Aside0.mk hT
  clear hT
  by_cases h0 : a < 0
  · have e := hG.out
    rw [nextG, if_pos (.inl h0)] at e
    simp only [Prod.mk.injEq] at e
    obtain ⟨rfl, rfl, rfl⟩ := e
    go_enter Tryd.func44, Tryd.ntmps44
    go_wp2
    go_ret3
    exact ⟨rfl, Below.refl _ _⟩
  · by_cases h1 : (s.size : Int) ≤ a
    · have e := hG.out
      rw [nextG, if_pos (.inr h1)] at e
      simp only [Prod.mk.injEq] at e
      obtain ⟨rfl, rfl, rfl⟩ := e
      go_enter Tryd.func44, Tryd.ntmps44
      go_wp2
      go_ret3
      exact ⟨rfl, Below.refl _ _⟩
    · obtain ⟨i, rfl⟩ := Int.eq_ofNat_of_zero_le (show 0 ≤ a by omega)
      have hi : i < s.size := by omega
      obtain ⟨t, ht⟩ : ∃ t, s.extract i s.size = t := ⟨_, rfl⟩
      obtain ⟨r1, n1, hd⟩ : ∃ r n, Utf8.decode s i = (r, n) := ⟨_, _, rfl⟩
      have HD := Aside0.mk (show Lib.decodeGo t = (r1, n1) by
        have h2 : t.size = s.size - i := by rw [← ht, ByteArray.size_extract]; omega
        rw [Lib.decodeGo, if_neg (by omega), ← ht]
        have h3 := Lib.tail_decode s i 0
        rw [Nat.add_zero] at h3
        rw [h3, hd])
      have HG : (if r1 = 65533 ∧ n1 < 2 then (0, 0, false) else (r1, n1, true)) = (r, n, ok) := by
        have h := hG.out
        rw [nextG, if_neg (by omega), Int.toNat_natCast, hd] at h
        exact h
      clear hd hG
      by_cases hb : r1 = 65533 ∧ n1 < 2
      · rw [if_pos hb] at HG
        simp only [Prod.mk.injEq] at HG
        obtain ⟨rfl, rfl, rfl⟩ := HG
        obtain ⟨rfl, hb2⟩ := hb
        go_enter Tryd.func44, Tryd.ntmps44
        go_wp2_with fail
        refine (Tryd.utf8_DecodeRuneInString t _ HT.out).mono ?_
        rintro e w1 ⟨rfl, hB⟩
        have HB := Aside0.mk hB
        clear hB
        rw [HD.out]
        go_wp2
        go_ret3
        exact ⟨rfl, HB.out⟩
      · rw [if_neg hb] at HG
        simp only [Prod.mk.injEq] at HG
        obtain ⟨rfl, rfl, rfl⟩ := HG
        by_cases hr : r1 = 65533
        · have hn : ¬ n1 < 2 := fun h => hb ⟨hr, h⟩
          subst hr
          clear hb
          go_enter Tryd.func44, Tryd.ntmps44
          go_wp2_with fail
          refine (Tryd.utf8_DecodeRuneInString t _ HT.out).mono ?_
          rintro e w1 ⟨rfl, hB⟩
          have HB := Aside0.mk hB
          clear hB
          rw [HD.out]
          go_wp2
          go_ret3
          exact ⟨rfl, HB.out⟩
        · have hr2 : ((r1 : Int) == 65533) = false := by rw [beq_eq_false_iff_ne]; omega
          clear hb
          go_enter Tryd.func44, Tryd.ntmps44
          go_wp2_with fail
          refine (Tryd.utf8_DecodeRuneInString t _ HT.out).mono ?_
          rintro e w1 ⟨rfl, hB⟩
          have HB := Aside0.mk hB
          clear hB
          rw [HD.out]
          go_wp2
          go_ret3
          exact ⟨rfl, HB.out⟩

theorem next_any (s : ByteArray) (a : Int) (w : World) (hs : s.size ≤ 9223372036854775807) (hT : Tabs w) :
    Calls Tryd.prog 44 #[.string s, .int .i64 a] w fun e w' => ∃ (r n : Nat) (ok : Bool), e = .returned (.tuple #[.int .i32 (r : Int), .int .i64 (n : Int), .bool ok]) ∧ Aside0 (nextG s a = (r, n, ok)) ∧ Aside0 (Below w.heap.size w w') :=
  (next_at s a w hs hT _ _ _ ⟨rfl⟩).mono fun _ _ ⟨h1, h2⟩ => ⟨_, _, _, h1, ⟨rfl⟩, ⟨h2⟩⟩
end Go.Proofs.YtabcaeckoghmpaaDoor
