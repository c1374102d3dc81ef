/- Plain laws: the runes of a text's parts. -/
import Derived.Test.YtbhakfaldedinaaDoorRBackPure
namespace Go.Proofs.YtbhakfaldedinaaDoor
set_option linter.unusedVariables false
set_option linter.unusedSimpArgs false
open Go.RowKit Go.Proofs.YtbhakfaldedinaaDoorW.PrintWords

theorem bt8_take (s : ByteArray) (k q : Nat) (h : q < k) (hk : k ≤ s.size) : bt8 (s.extract 0 k) q = bt8 s q := by
  rw [bt8_list, bt8_list]
  simp only [ByteArray.data_extract, Array.toList_extract, List.extract_eq_take_drop, List.drop_zero, Nat.sub_zero]
  rw [List.getD_eq_getElem?_getD, List.getD_eq_getElem?_getD, List.getElem?_take_of_lt h]
theorem bt8_drop (s : ByteArray) (k q : Nat) (h : k + q < s.size) : bt8 (s.extract k s.size) q = bt8 s (k + q) := by
  rw [bt8_list, bt8_list]
  simp only [ByteArray.data_extract, Array.toList_extract, List.extract_eq_take_drop]
  rw [List.getD_eq_getElem?_getD, List.getD_eq_getElem?_getD, List.getElem?_take_of_lt (by omega), List.getElem?_drop]
theorem size_take (s : ByteArray) (k : Nat) (hk : k ≤ s.size) : (s.extract 0 k).size = k := by
  rw [ByteArray.size_extract]; omega
theorem size_drop (s : ByteArray) (k : Nat) : (s.extract k s.size).size = s.size - k := by
  rw [ByteArray.size_extract]; omega

theorem decodeN_cut (n m b0 b1 b2 b3 c1 c2 c3 : Nat) (hm : 1 ≤ m) (hmn : m ≤ n) (h1 : 1 < m → c1 = b1) (h2 : 2 < m → c2 = b2) (h3 : 3 < m → c3 = b3) :
    ((Lib.decodeN n b0 b1 b2 b3).2 ≤ m → Lib.decodeN m b0 c1 c2 c3 = Lib.decodeN n b0 b1 b2 b3) ∧ (m < (Lib.decodeN n b0 b1 b2 b3).2 → Lib.decodeN m b0 c1 c2 c3 = (65533, 1)) := by
  by_cases g0 : b0 < 128
  · have e1 : Lib.decodeN n b0 b1 b2 b3 = (b0, 1) := by rw [Lib.decodeN, if_pos g0]
    have e2 : Lib.decodeN m b0 c1 c2 c3 = (b0, 1) := by rw [Lib.decodeN, if_pos g0]
    rw [e1, e2]
    exact ⟨fun _ => rfl, fun h => absurd h (by simp only; omega)⟩
  · by_cases hm4 : 4 ≤ m
    · obtain rfl := h1 (by omega)
      obtain rfl := h2 (by omega)
      obtain rfl := h3 (by omega)
      have e : Lib.decodeN m b0 c1 c2 c3 = Lib.decodeN n b0 c1 c2 c3 := by
        have a1 : (1 < m) = (1 < n) := propext ⟨fun _ => by omega, fun _ => by omega⟩
        have a2 : (2 < m) = (2 < n) := propext ⟨fun _ => by omega, fun _ => by omega⟩
        have a3 : (3 < m) = (3 < n) := propext ⟨fun _ => by omega, fun _ => by omega⟩
        unfold Lib.decodeN
        simp only [a1, a2, a3]
      have hle : (Lib.decodeN n b0 c1 c2 c3).2 ≤ 4 := by
        unfold Lib.decodeN
        repeat' split
        all_goals simp
      exact ⟨fun _ => e, fun h => absurd h (by omega)⟩
    · have hcase : m = 1 ∨ m = 2 ∨ m = 3 := by omega
      rcases hcase with rfl | rfl | rfl
      · have e2 : Lib.decodeN 1 b0 c1 c2 c3 = (65533, 1) := by
          unfold Lib.decodeN
          rw [if_neg g0, if_neg (by omega), if_neg (by omega), if_neg (by omega)]
        refine ⟨?_, fun _ => e2⟩
        rw [e2]
        unfold Lib.decodeN
        repeat' split
        all_goals first | (intro _; rfl) | (intro h; simp only at h; omega)
      · obtain rfl := h1 (by omega)
        clear h1 h2 h3
        by_cases g1 : b0 / 32 = 6 ∧ (1 < n ∧ c1 / 64 = 2)
        · have e1 : Lib.decodeN 2 b0 c1 c2 c3 = Lib.decodeN n b0 c1 b2 b3 := by
            unfold Lib.decodeN
            rw [if_neg g0, if_neg g0, if_pos ⟨g1.1, by omega, g1.2.2⟩, if_pos g1]
          have hle : (Lib.decodeN n b0 c1 b2 b3).2 ≤ 2 := by
            unfold Lib.decodeN
            rw [if_neg g0, if_pos g1]
            split
            all_goals simp
          exact ⟨fun _ => e1, fun h => absurd h (by omega)⟩
        · have e2 : Lib.decodeN 2 b0 c1 c2 c3 = (65533, 1) := by
            unfold Lib.decodeN
            rw [if_neg g0, if_neg (by omega), if_neg (by omega), if_neg (by omega)]
          refine ⟨?_, fun _ => e2⟩
          rw [e2]
          unfold Lib.decodeN
          rw [if_neg g0, if_neg g1]
          repeat' split
          all_goals first | (intro _; rfl) | (intro h; simp only at h; omega)
      · obtain rfl := h1 (by omega)
        obtain rfl := h2 (by omega)
        clear h1 h2 h3
        by_cases g1 : b0 / 32 = 6 ∧ (1 < n ∧ c1 / 64 = 2)
        · have e1 : Lib.decodeN 3 b0 c1 c2 c3 = Lib.decodeN n b0 c1 c2 b3 := by
            unfold Lib.decodeN
            rw [if_neg g0, if_neg g0, if_pos ⟨g1.1, by omega, g1.2.2⟩, if_pos g1]
          have hle : (Lib.decodeN n b0 c1 c2 b3).2 ≤ 2 := by
            unfold Lib.decodeN
            rw [if_neg g0, if_pos g1]
            split
            all_goals simp
          exact ⟨fun _ => e1, fun h => absurd h (by omega)⟩
        · by_cases g2 : b0 / 16 = 14 ∧ (1 < n ∧ c1 / 64 = 2) ∧ (2 < n ∧ c2 / 64 = 2)
          · have e1 : Lib.decodeN 3 b0 c1 c2 c3 = Lib.decodeN n b0 c1 c2 b3 := by
              unfold Lib.decodeN
              rw [if_neg g0, if_neg g0, if_neg (by omega), if_neg g1, if_pos (by omega), if_pos g2]
            have hle : (Lib.decodeN n b0 c1 c2 b3).2 ≤ 3 := by
              unfold Lib.decodeN
              rw [if_neg g0, if_neg g1, if_pos g2]
              split
              all_goals simp
            exact ⟨fun _ => e1, fun h => absurd h (by omega)⟩
          · have e2 : Lib.decodeN 3 b0 c1 c2 c3 = (65533, 1) := by
              unfold Lib.decodeN
              rw [if_neg g0, if_neg (by omega), if_neg (by omega), if_neg (by omega)]
            refine ⟨?_, fun _ => e2⟩
            rw [e2]
            unfold Lib.decodeN
            rw [if_neg g0, if_neg g1, if_neg g2]
            repeat' split
            all_goals first | (intro _; rfl) | (intro h; simp only at h; omega)

/-- The head of a text: its runes, as far as they are whole. -/
theorem dec_take (s : ByteArray) (k p : Nat) (hk : k ≤ s.size) (hp : p < k) :
    (p + (Utf8.decode s p).2 ≤ k → Utf8.decode (s.extract 0 k) p = Utf8.decode s p) ∧ (k < p + (Utf8.decode s p).2 → Utf8.decode (s.extract 0 k) p = (65533, 1)) := by
  have h := decodeN_cut (s.size - p) (k - p) (bt8 s p) (bt8 s (p + 1)) (bt8 s (p + 2)) (bt8 s (p + 3)) (bt8 (s.extract 0 k) (p + 1)) (bt8 (s.extract 0 k) (p + 2)) (bt8 (s.extract 0 k) (p + 3)) (by omega) (by omega)
    (fun h => bt8_take s k _ (by omega) hk) (fun h => bt8_take s k _ (by omega) hk) (fun h => bt8_take s k _ (by omega) hk)
  have e1 : Utf8.decode s p = Lib.decodeN (s.size - p) (bt8 s p) (bt8 s (p + 1)) (bt8 s (p + 2)) (bt8 s (p + 3)) := Lib.decode_at s p
  have e2 : Utf8.decode (s.extract 0 k) p = Lib.decodeN (k - p) (bt8 s p) (bt8 (s.extract 0 k) (p + 1)) (bt8 (s.extract 0 k) (p + 2)) (bt8 (s.extract 0 k) (p + 3)) := by
    have := Lib.decode_at (s.extract 0 k) p
    rw [size_take s k hk] at this
    rw [this]
    show Lib.decodeN (k - p) (bt8 (s.extract 0 k) p) _ _ _ = _
    rw [bt8_take s k p hp hk]
    rfl
  rw [e2, e1]
  exact ⟨fun h1 => h.1 (by omega), fun h1 => h.2 (by omega)⟩
/-- The rest of a text. -/
theorem dec_drop (s : ByteArray) (k q : Nat) (hp : k + q < s.size) : Utf8.decode (s.extract k s.size) q = Utf8.decode s (k + q) := by
  have hle := (dec_le s (k + q) hp).1
  have e1 : Utf8.decode s (k + q) = Lib.decodeN (s.size - (k + q)) (bt8 s (k + q)) (bt8 s (k + q + 1)) (bt8 s (k + q + 2)) (bt8 s (k + q + 3)) := Lib.decode_at s (k + q)
  have h := decodeN_cut (s.size - (k + q)) (s.size - (k + q)) (bt8 s (k + q)) (bt8 s (k + q + 1)) (bt8 s (k + q + 2)) (bt8 s (k + q + 3)) (bt8 (s.extract k s.size) (q + 1)) (bt8 (s.extract k s.size) (q + 2)) (bt8 (s.extract k s.size) (q + 3)) (by omega) (by omega)
    (fun h => bt8_drop s k _ (by omega)) (fun h => bt8_drop s k _ (by omega)) (fun h => bt8_drop s k _ (by omega))
  have e2 : Utf8.decode (s.extract k s.size) q = Lib.decodeN (s.size - (k + q)) (bt8 s (k + q)) (bt8 (s.extract k s.size) (q + 1)) (bt8 (s.extract k s.size) (q + 2)) (bt8 (s.extract k s.size) (q + 3)) := by
    have := Lib.decode_at (s.extract k s.size) q
    rw [size_drop s k] at this
    rw [this]
    show Lib.decodeN (s.size - k - q) (bt8 (s.extract k s.size) q) _ _ _ = _
    rw [bt8_drop s k q hp, show s.size - k - q = s.size - (k + q) by omega]
    rfl
  rw [e2]
  rw [e1] at hle ⊢
  exact h.1 (by omega)

/-- With as many turns as it takes, and more, it is the same. -/
theorem runesF_more (s : ByteArray) : ∀ k p, s.size ≤ p + k → ∀ j, k ≤ j → runesF s j p = runesF s k p := by
  intro k
  induction k with
  | zero => intro p h j hj; rw [runesF_end s j p (by omega), runesF_end s 0 p (by omega)]
  | succ k ih =>
    intro p h j hj
    obtain ⟨j, rfl⟩ : ∃ j', j = j' + 1 := ⟨j - 1, by omega⟩
    by_cases hp : p < s.size
    · have h1 := dec_pos s p hp
      rw [runesF_step s j p hp, runesF_step s k p hp, ih _ (by omega) j (by omega)]
    · rw [runesF_end s _ p hp, runesF_end s _ p hp]
/-- The runes from a place on. -/
def runesA (s : ByteArray) (p : Nat) : Option (List Nat) := runesF s (s.size - p) p
theorem runesA_step (s : ByteArray) (p : Nat) (h : p < s.size) : runesA s p = if (Utf8.decode s p).1 = 65533 ∧ (Utf8.decode s p).2 < 2 then none else (runesA s (p + (Utf8.decode s p).2)).map ((Utf8.decode s p).1 :: ·) := by
  have h1 := dec_pos s p h
  unfold runesA
  obtain ⟨n, hn⟩ : ∃ n, s.size - p = n + 1 := ⟨s.size - p - 1, by omega⟩
  rw [hn, runesF_step s n p h, runesF_more s (s.size - (p + (Utf8.decode s p).2)) (p + (Utf8.decode s p).2) (by omega) n (by omega)]
theorem runesA_end (s : ByteArray) (p : Nat) (h : ¬ p < s.size) : runesA s p = some [] := runesF_end s _ p h
theorem runesA_zero (s : ByteArray) : runesA s 0 = runesG s := rfl
theorem runesA_drop (s : ByteArray) (k : Nat) (hk : k ≤ s.size) : ∀ n q, s.size = k + q + n → runesA (s.extract k s.size) q = runesA s (k + q) := by
  intro n
  induction n using Nat.strongRecOn with
  | _ n ih =>
    intro q h
    by_cases h0 : n = 0
    · rw [runesA_end _ _ (by rw [size_drop]; omega), runesA_end _ _ (by omega)]
    · have h1 := dec_pos s (k + q) (by omega)
      have h2 := (dec_le s (k + q) (by omega)).1
      rw [runesA_step s (k + q) (by omega), runesA_step _ q (by rw [size_drop]; omega), dec_drop s k q (by omega),
        ih (n - (Utf8.decode s (k + q)).2) (by omega) (q + (Utf8.decode s (k + q)).2) (by omega), Nat.add_assoc]
/-- What is behind a place of a text is a text of the runes from there on. -/
theorem runesG_drop (s : ByteArray) (k : Nat) (hk : k ≤ s.size) : runesG (s.extract k s.size) = runesA s k := by
  have := runesA_drop s k hk (s.size - k) 0 (by omega)
  rw [Nat.add_zero] at this
  exact this
end Go.Proofs.YtbhakfaldedinaaDoor
