/- The reference's Next. -/
import Derived.Test.YtabcaeckoghmpaaDoorRNext
namespace Go.Proofs.YtabcaeckoghmpaaDoor
set_option linter.unusedVariables false
set_option linter.unusedSimpArgs false
open Go.RowKit Go.Proofs.YtabcaeckoghmpaaDoorW.PrintWords

/-- The byte at a place. -/
def bt8 (s : ByteArray) (i : Nat) : Nat := (s.get! i).toNat
theorem bt8_lt (s : ByteArray) (i : Nat) : bt8 s i < 256 := (s.get! i).toNat_lt
theorem bt8_at (s : ByteArray) (i : Nat) (h : i < s.size) : (s[i]'h).toNat = bt8 s i := by rw [bt8, Utf8W.get!_of_lt s i h]

/-- Six bits of a byte that goes on. -/
def tailF (s : ByteArray) (i : Nat) : Int := if s.size ≤ i ∨ bt8 s i < 128 ∨ 191 < bt8 s i then -1 else (bt8 s i : Int) - 128

theorem tail_at (s : ByteArray) (i : Nat) (w : World) (hs : s.size ≤ 9223372036854775807) (hi : i ≤ 9223372036854775807) (v : Int) (hv : Aside0 (tailF s i = v)) :
    Calls Tryd.prog 45 #[.string s, .int .i64 (i : Int)] w fun e w' => e = .returned (.int .i64 v) ∧ w = w' := by
  by_cases h0 : i < s.size
  · obtain ⟨x, hx⟩ : ∃ x, bt8 s i = x := ⟨_, rfl⟩
    have hsi : (s[i]'h0).toNat = x := by rw [bt8_at, hx]
    have hxl : x < 256 := by rw [← hx]; exact bt8_lt s i
    have e := hv.out
    rw [tailF, hx] at e
    have HX := Aside0.mk hx
    clear hx hv
    by_cases h1 : x < 128
    · rw [if_pos (.inr (.inl h1))] at e
      subst e
      go_enter Tryd.func45, Tryd.ntmps45
      go_wp2
      go_ret
      exact ⟨rfl, rfl⟩
    · by_cases h2 : 191 < x
      · rw [if_pos (.inr (.inr h2))] at e
        subst e
        go_enter Tryd.func45, Tryd.ntmps45
        go_wp2
        go_ret
        exact ⟨rfl, rfl⟩
      · rw [if_neg (by omega)] at e
        subst e
        go_enter Tryd.func45, Tryd.ntmps45
        go_wp2
        go_ret
        exact ⟨rfl, rfl⟩
  · have e := hv.out
    rw [tailF, if_pos (.inl (by omega))] at e
    subst e
    have hi2 : s.size ≤ i := by omega
    go_enter Tryd.func45, Tryd.ntmps45
    go_wp2
    go_ret
    exact ⟨rfl, rfl⟩

theorem tail_iff (s : ByteArray) (i : Nat) : 0 ≤ tailF s i ↔ (i < s.size ∧ bt8 s i / 64 = 2) := by
  have := bt8_lt s i
  unfold tailF
  split
  · constructor
    · intro h; omega
    · intro h; omega
  · constructor
    · intro _; omega
    · intro h; omega
theorem tail_val (s : ByteArray) (i : Nat) (h : 0 ≤ tailF s i) : (tailF s i).toNat = bt8 s i % 64 := by
  obtain ⟨h1, h2⟩ := (tail_iff s i).1 h
  have := bt8_lt s i
  unfold tailF
  rw [if_neg (by omega)]
  omega

theorem nextG_in (s : ByteArray) (a : Nat) (ha : a < s.size) :
    nextG s (a : Int) = if (Lib.decodeN (s.size - a) (bt8 s a) (bt8 s (a + 1)) (bt8 s (a + 2)) (bt8 s (a + 3))).1 = 65533 ∧ (Lib.decodeN (s.size - a) (bt8 s a) (bt8 s (a + 1)) (bt8 s (a + 2)) (bt8 s (a + 3))).2 < 2 then (0, 0, false)
      else ((Lib.decodeN (s.size - a) (bt8 s a) (bt8 s (a + 1)) (bt8 s (a + 2)) (bt8 s (a + 3))).1, (Lib.decodeN (s.size - a) (bt8 s a) (bt8 s (a + 1)) (bt8 s (a + 2)) (bt8 s (a + 3))).2, true) := by
  rw [nextG, if_neg (by omega), Int.toNat_natCast, Lib.decode_at]
  rfl
theorem nextG_dec (s : ByteArray) (a : Nat) (ha : a < s.size) (r n : Nat) (h : Lib.decodeN (s.size - a) (bt8 s a) (bt8 s (a + 1)) (bt8 s (a + 2)) (bt8 s (a + 3)) = (r, n)) (hn : 2 ≤ n ∨ r ≠ 65533) : nextG s (a : Int) = (r, n, true) := by
  rw [nextG_in s a ha, h, if_neg (by show ¬ (r = 65533 ∧ n < 2); omega)]
theorem nextG_bad (s : ByteArray) (a : Nat) (ha : a < s.size) (h : Lib.decodeN (s.size - a) (bt8 s a) (bt8 s (a + 1)) (bt8 s (a + 2)) (bt8 s (a + 3)) = (65533, 1)) : nextG s (a : Int) = (0, 0, false) := by
  rw [nextG_in s a ha, h, if_pos (by show (65533 : Nat) = 65533 ∧ 1 < 2; omega)]
theorem nextG_low (s : ByteArray) (a : Nat) (ha : a < s.size) (h : bt8 s a < 128) : nextG s (a : Int) = (bt8 s a, 1, true) :=
  nextG_dec s a ha _ _ (by rw [Lib.decodeN, if_pos h]) (.inr (by omega))
theorem nextG_none (s : ByteArray) (a : Nat) (ha : a < s.size) (h : (128 ≤ bt8 s a ∧ bt8 s a < 192) ∨ 248 ≤ bt8 s a) : nextG s (a : Int) = (0, 0, false) :=
  nextG_bad s a ha (by rw [Lib.decodeN, if_neg (by omega), if_neg (by omega), if_neg (by omega), if_neg (by omega)])

/-- The value after so many bytes. -/
def valF (s : ByteArray) (a v0 : Nat) : Nat → Nat
  | 0 => v0
  | k + 1 => 64 * valF s a v0 k + (tailF s (a + (k + 1))).toNat

theorem valF_1 (s : ByteArray) (a v0 : Nat) : valF s a v0 1 = 64 * v0 + (tailF s (a + 1)).toNat := rfl
theorem valF_2 (s : ByteArray) (a v0 : Nat) : valF s a v0 2 = 64 * (64 * v0 + (tailF s (a + 1)).toNat) + (tailF s (a + 2)).toNat := rfl
theorem valF_3 (s : ByteArray) (a v0 : Nat) : valF s a v0 3 = 64 * (64 * (64 * v0 + (tailF s (a + 1)).toNat) + (tailF s (a + 2)).toNat) + (tailF s (a + 3)).toNat := rfl

set_option maxHeartbeats 1000000 in
theorem nextG_2 (s : ByteArray) (a : Nat) (ha : a < s.size) (h : 192 ≤ bt8 s a ∧ bt8 s a < 224) :
    nextG s (a : Int) = if (0 ≤ tailF s (a + 1)) ∧ 128 ≤ valF s a (bt8 s a - 192) 1 then (valF s a (bt8 s a - 192) 1, 2, true) else (0, 0, false) := by
  have hbad := nextG_bad s a ha
  have hdec := nextG_dec s a ha
  have e1 := tail_iff s (a + 1)
  have v1 := tail_val s (a + 1)
  have l1 := bt8_lt s (a + 1)
  rw [valF_1]
  generalize nextG s (a : Int) = G at *
  generalize bt8 s a = b0 at *
  generalize bt8 s (a + 1) = b1 at *
  generalize bt8 s (a + 2) = b2 at *
  generalize bt8 s (a + 3) = b3 at *
  generalize tailF s (a + 1) = t1 at *
  by_cases h1 : 0 ≤ t1
  · obtain ⟨g1a, g1b⟩ := e1.1 h1
    rw [v1 h1]
    by_cases h2 : b0 % 32 * 64 + b1 % 64 ≥ 128
    · rw [if_pos (by omega), hdec (b0 % 32 * 64 + b1 % 64) 2 (by unfold Lib.decodeN; rw [if_neg (by omega), if_pos (by omega), if_pos h2]) (.inl (by omega))]
      simp only [Prod.mk.injEq, and_true]
      omega
    · rw [if_neg (by omega), hbad (by unfold Lib.decodeN; rw [if_neg (by omega), if_pos (by omega), if_neg h2])]
  · have g : ¬ ((a + 1 < s.size ∧ b1 / 64 = 2)) := fun h => h1 (e1.2 h)
    rw [if_neg (fun h => h1 h.1), hbad (by unfold Lib.decodeN; rw [if_neg (by omega), if_neg (by omega), if_neg (by omega), if_neg (by omega)])]

set_option maxHeartbeats 1000000 in
theorem nextG_3 (s : ByteArray) (a : Nat) (ha : a < s.size) (h : 224 ≤ bt8 s a ∧ bt8 s a < 240) :
    nextG s (a : Int) = if (0 ≤ tailF s (a + 1) ∧ 0 ≤ tailF s (a + 2)) ∧ 2048 ≤ valF s a (bt8 s a - 224) 2 ∧ ¬ (55296 ≤ valF s a (bt8 s a - 224) 2 ∧ valF s a (bt8 s a - 224) 2 ≤ 57343) then (valF s a (bt8 s a - 224) 2, 3, true) else (0, 0, false) := by
  have hbad := nextG_bad s a ha
  have hdec := nextG_dec s a ha
  have e1 := tail_iff s (a + 1)
  have v1 := tail_val s (a + 1)
  have l1 := bt8_lt s (a + 1)
  have e2 := tail_iff s (a + 2)
  have v2 := tail_val s (a + 2)
  have l2 := bt8_lt s (a + 2)
  rw [valF_2]
  generalize nextG s (a : Int) = G at *
  generalize bt8 s a = b0 at *
  generalize bt8 s (a + 1) = b1 at *
  generalize bt8 s (a + 2) = b2 at *
  generalize bt8 s (a + 3) = b3 at *
  generalize tailF s (a + 1) = t1 at *
  generalize tailF s (a + 2) = t2 at *
  by_cases h1 : 0 ≤ t1 ∧ 0 ≤ t2
  · obtain ⟨g1a, g1b⟩ := e1.1 h1.1
    obtain ⟨g2a, g2b⟩ := e2.1 h1.2
    rw [v1 h1.1, v2 h1.2]
    by_cases h2 : b0 % 16 * 4096 + b1 % 64 * 64 + b2 % 64 ≥ 2048 ∧ (b0 % 16 * 4096 + b1 % 64 * 64 + b2 % 64 < 55296 ∨ (57344 ≤ b0 % 16 * 4096 + b1 % 64 * 64 + b2 % 64 ∧ b0 % 16 * 4096 + b1 % 64 * 64 + b2 % 64 ≤ 1114111))
    · rw [if_pos (by omega), hdec (b0 % 16 * 4096 + b1 % 64 * 64 + b2 % 64) 3 (by unfold Lib.decodeN; rw [if_neg (by omega), if_neg (by omega), if_pos (by omega), if_pos h2]) (.inl (by omega))]
      simp only [Prod.mk.injEq, and_true]
      omega
    · rw [if_neg (by omega), hbad (by unfold Lib.decodeN; rw [if_neg (by omega), if_neg (by omega), if_pos (by omega), if_neg h2])]
  · have g : ¬ ((a + 1 < s.size ∧ b1 / 64 = 2) ∧ (a + 2 < s.size ∧ b2 / 64 = 2)) := fun h => h1 (⟨e1.2 h.1, e2.2 h.2⟩)
    rw [if_neg (fun h => h1 h.1), hbad (by unfold Lib.decodeN; rw [if_neg (by omega), if_neg (by omega), if_neg (by omega), if_neg (by omega)])]

set_option maxHeartbeats 1000000 in
theorem nextG_4 (s : ByteArray) (a : Nat) (ha : a < s.size) (h : 240 ≤ bt8 s a ∧ bt8 s a < 248) :
    nextG s (a : Int) = if ((0 ≤ tailF s (a + 1) ∧ 0 ≤ tailF s (a + 2)) ∧ 0 ≤ tailF s (a + 3)) ∧ 65536 ≤ valF s a (bt8 s a - 240) 3 ∧ valF s a (bt8 s a - 240) 3 ≤ 1114111 then (valF s a (bt8 s a - 240) 3, 4, true) else (0, 0, false) := by
  have hbad := nextG_bad s a ha
  have hdec := nextG_dec s a ha
  have e1 := tail_iff s (a + 1)
  have v1 := tail_val s (a + 1)
  have l1 := bt8_lt s (a + 1)
  have e2 := tail_iff s (a + 2)
  have v2 := tail_val s (a + 2)
  have l2 := bt8_lt s (a + 2)
  have e3 := tail_iff s (a + 3)
  have v3 := tail_val s (a + 3)
  have l3 := bt8_lt s (a + 3)
  rw [valF_3]
  generalize nextG s (a : Int) = G at *
  generalize bt8 s a = b0 at *
  generalize bt8 s (a + 1) = b1 at *
  generalize bt8 s (a + 2) = b2 at *
  generalize bt8 s (a + 3) = b3 at *
  generalize tailF s (a + 1) = t1 at *
  generalize tailF s (a + 2) = t2 at *
  generalize tailF s (a + 3) = t3 at *
  by_cases h1 : (0 ≤ t1 ∧ 0 ≤ t2) ∧ 0 ≤ t3
  · obtain ⟨g1a, g1b⟩ := e1.1 h1.1.1
    obtain ⟨g2a, g2b⟩ := e2.1 h1.1.2
    obtain ⟨g3a, g3b⟩ := e3.1 h1.2
    rw [v1 h1.1.1, v2 h1.1.2, v3 h1.2]
    by_cases h2 : b0 % 8 * 262144 + b1 % 64 * 4096 + b2 % 64 * 64 + b3 % 64 ≥ 65536 ∧ (b0 % 8 * 262144 + b1 % 64 * 4096 + b2 % 64 * 64 + b3 % 64 < 55296 ∨ (57344 ≤ b0 % 8 * 262144 + b1 % 64 * 4096 + b2 % 64 * 64 + b3 % 64 ∧ b0 % 8 * 262144 + b1 % 64 * 4096 + b2 % 64 * 64 + b3 % 64 ≤ 1114111))
    · rw [if_pos (by omega), hdec (b0 % 8 * 262144 + b1 % 64 * 4096 + b2 % 64 * 64 + b3 % 64) 4 (by unfold Lib.decodeN; rw [if_neg (by omega), if_neg (by omega), if_neg (by omega), if_pos (by omega), if_pos h2]) (.inl (by omega))]
      simp only [Prod.mk.injEq, and_true]
      omega
    · rw [if_neg (by omega), hbad (by unfold Lib.decodeN; rw [if_neg (by omega), if_neg (by omega), if_neg (by omega), if_pos (by omega), if_neg h2])]
  · have g : ¬ (((a + 1 < s.size ∧ b1 / 64 = 2) ∧ (a + 2 < s.size ∧ b2 / 64 = 2)) ∧ (a + 3 < s.size ∧ b3 / 64 = 2)) := fun h => h1 (⟨⟨e1.2 h.1.1, e2.2 h.1.2⟩, e3.2 h.2⟩)
    rw [if_neg (fun h => h1 h.1), hbad (by unfold Lib.decodeN; rw [if_neg (by omega), if_neg (by omega), if_neg (by omega), if_neg (by omega)])]

end Go.Proofs.YtabcaeckoghmpaaDoor
