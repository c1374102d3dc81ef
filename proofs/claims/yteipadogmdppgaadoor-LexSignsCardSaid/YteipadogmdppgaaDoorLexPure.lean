/- Plain laws: the pieces of a text, and what is behind a place turns nothing ahead of it. -/
import Derived.Test.YteipadogmdppgaaDoorLPre
import Derived.Test.YteipadogmdppgaaDoorRRefNext
import Derived.Test.YteipadogmdppgaaDoorRLetter
namespace Go.Proofs.YteipadogmdppgaaDoor
set_option linter.unusedVariables false
set_option linter.unusedSimpArgs false
open Go.RowKit Go.Proofs.YteipadogmdppgaaDoorW.PrintWords

theorem bt8_list (s : ByteArray) (i : Nat) : bt8 s i = (s.data.toList.getD i 0).toNat := by
  obtain ⟨d⟩ := s
  show (d[i]!).toNat = (d.toList.getD i 0).toNat
  rw [List.getD_eq_getElem?_getD, Array.getElem?_toList, getElem!_def]
  cases d[i]? with
  | none => rfl
  | some x => rfl
/-- A text's bytes. -/
def bs (s : ByteArray) : List Nat := s.data.toList.map UInt8.toNat
theorem bs_length (s : ByteArray) : (bs s).length = s.size := by rw [bs, List.length_map]; exact Array.length_toList
theorem bs_getD (s : ByteArray) (i : Nat) : (bs s).getD i 0 = bt8 s i := by
  rw [bt8_list, bs, List.getD_eq_getElem?_getD, List.getD_eq_getElem?_getD, List.getElem?_map]
  cases s.data.toList[i]? <;> rfl
theorem bs_append (s t : ByteArray) : bs (s ++ t) = bs s ++ bs t := by simp [bs]
theorem bs_extract (s : ByteArray) (a b : Nat) : bs (s.extract a b) = ((bs s).drop a).take (b - a) := by
  simp only [bs, ByteArray.data_extract, Array.toList_extract, List.extract_eq_take_drop, List.map_take, List.map_drop]
theorem bs_inj {s t : ByteArray} (h : bs s = bs t) : s = t := by
  have h1 : s.data.toList = t.data.toList := by
    have hj : Function.Injective UInt8.toNat := fun a b h => UInt8.toNat_inj.1 h
    exact (List.map_inj_right hj).1 h
  obtain ⟨a⟩ := s
  obtain ⟨b⟩ := t
  congr 1
  exact Array.toList_inj.1 h1
/-- The rune at the head of bytes. -/
def dL (u : List Nat) : Nat × Nat := Lib.decodeN u.length (u.getD 0 0) (u.getD 1 0) (u.getD 2 0) (u.getD 3 0)
theorem getD_drop' (u : List Nat) (p i : Nat) : (u.drop p).getD i 0 = u.getD (p + i) 0 := by
  rw [List.getD_eq_getElem?_getD, List.getD_eq_getElem?_getD, List.getElem?_drop]
theorem dec_dL (s : ByteArray) (p : Nat) : Utf8.decode s p = dL ((bs s).drop p) := by
  rw [Lib.decode_at, dL, List.length_drop, bs_length, getD_drop', getD_drop', getD_drop', getD_drop', bs_getD, bs_getD, bs_getD, bs_getD]
  rfl
theorem dL_pos (u : List Nat) : 1 ≤ (dL u).2 := by
  unfold dL Lib.decodeN
  repeat' split
  all_goals simp
theorem decN_low (n b0 b1 b2 b3 : Nat) (h : b0 < 128) : Lib.decodeN n b0 b1 b2 b3 = (b0, 1) := by rw [Lib.decodeN, if_pos h]
theorem decN_ge (n b0 b1 b2 b3 : Nat) (h : ¬ b0 < 128) : 128 ≤ (Lib.decodeN n b0 b1 b2 b3).1 := by
  unfold Lib.decodeN
  rw [if_neg h]
  repeat' split
  all_goals simp only
  all_goals omega
theorem decN_le (n b0 b1 b2 b3 : Nat) (h : 1 ≤ n) : (Lib.decodeN n b0 b1 b2 b3).2 ≤ n := by
  unfold Lib.decodeN
  repeat' split
  all_goals simp only
  all_goals omega
/-- A byte that does not go on ends what is ahead of it. -/
theorem decN_stop (n m b0 b1 b2 b3 : Nat) (hm : 1 ≤ m) (h1 : m = 1 → b1 < 128) (h2 : m = 2 → b2 < 128) (h3 : m = 3 → b3 < 128) : (Lib.decodeN n b0 b1 b2 b3).2 ≤ m := by
  by_cases h4 : 4 ≤ m
  · have : (Lib.decodeN n b0 b1 b2 b3).2 ≤ 4 := by
      unfold Lib.decodeN
      repeat' split
      all_goals simp
    omega
  · have hc : m = 1 ∨ m = 2 ∨ m = 3 := by omega
    rcases hc with rfl | rfl | rfl
    · have := h1 rfl
      unfold Lib.decodeN
      repeat' split
      all_goals simp only
      all_goals omega
    · have := h2 rfl
      unfold Lib.decodeN
      repeat' split
      all_goals simp only
      all_goals omega
    · have := h3 rfl
      unfold Lib.decodeN
      repeat' split
      all_goals simp only
      all_goals omega
theorem decodeN_cut (n m b0 b1 b2 b3 c1 c2 c3 : Nat) (hm : 1 ≤ m) (hmn : m ≤ n) (h1 : 1 < m → c1 = b1) (h2 : 2 < m → c2 = b2) (h3 : 3 < m → c3 = b3) :
    ((Lib.decodeN n b0 b1 b2 b3).2 ≤ m → Lib.decodeN m b0 c1 c2 c3 = Lib.decodeN n b0 b1 b2 b3) ∧ (m < (Lib.decodeN n b0 b1 b2 b3).2 → Lib.decodeN m b0 c1 c2 c3 = (65533, 1)) := by
  by_cases g0 : b0 < 128
  · have e1 : Lib.decodeN n b0 b1 b2 b3 = (b0, 1) := by rw [Lib.decodeN, if_pos g0]
    have e2 : Lib.decodeN m b0 c1 c2 c3 = (b0, 1) := by rw [Lib.decodeN, if_pos g0]
    rw [e1, e2]
    exact ⟨fun _ => rfl, fun h => absurd h (by simp only; omega)⟩
  · by_cases hm4 : 4 ≤ m
    · obtain rfl := h1 (by omega)
      obtain rfl := h2 (by omega)
      obtain rfl := h3 (by omega)
      have e : Lib.decodeN m b0 c1 c2 c3 = Lib.decodeN n b0 c1 c2 c3 := by
        have a1 : (1 < m) = (1 < n) := propext ⟨fun _ => by omega, fun _ => by omega⟩
        have a2 : (2 < m) = (2 < n) := propext ⟨fun _ => by omega, fun _ => by omega⟩
        have a3 : (3 < m) = (3 < n) := propext ⟨fun _ => by omega, fun _ => by omega⟩
        unfold Lib.decodeN
        simp only [a1, a2, a3]
      have hle : (Lib.decodeN n b0 c1 c2 c3).2 ≤ 4 := by
        unfold Lib.decodeN
        repeat' split
        all_goals simp
      exact ⟨fun _ => e, fun h => absurd h (by omega)⟩
    · have hcase : m = 1 ∨ m = 2 ∨ m = 3 := by omega
      rcases hcase with rfl | rfl | rfl
      · have e2 : Lib.decodeN 1 b0 c1 c2 c3 = (65533, 1) := by
          unfold Lib.decodeN
          rw [if_neg g0, if_neg (by omega), if_neg (by omega), if_neg (by omega)]
        refine ⟨?_, fun _ => e2⟩
        rw [e2]
        unfold Lib.decodeN
        repeat' split
        all_goals first | (intro _; rfl) | (intro h; simp only at h; omega)
      · obtain rfl := h1 (by omega)
        clear h1 h2 h3
        by_cases g1 : b0 / 32 = 6 ∧ (1 < n ∧ c1 / 64 = 2)
        · have e1 : Lib.decodeN 2 b0 c1 c2 c3 = Lib.decodeN n b0 c1 b2 b3 := by
            unfold Lib.decodeN
            rw [if_neg g0, if_neg g0, if_pos ⟨g1.1, by omega, g1.2.2⟩, if_pos g1]
          have hle : (Lib.decodeN n b0 c1 b2 b3).2 ≤ 2 := by
            unfold Lib.decodeN
            rw [if_neg g0, if_pos g1]
            split
            all_goals simp
          exact ⟨fun _ => e1, fun h => absurd h (by omega)⟩
        · have e2 : Lib.decodeN 2 b0 c1 c2 c3 = (65533, 1) := by
            unfold Lib.decodeN
            rw [if_neg g0, if_neg (by omega), if_neg (by omega), if_neg (by omega)]
          refine ⟨?_, fun _ => e2⟩
          rw [e2]
          unfold Lib.decodeN
          rw [if_neg g0, if_neg g1]
          repeat' split
          all_goals first | (intro _; rfl) | (intro h; simp only at h; omega)
      · obtain rfl := h1 (by omega)
        obtain rfl := h2 (by omega)
        clear h1 h2 h3
        by_cases g1 : b0 / 32 = 6 ∧ (1 < n ∧ c1 / 64 = 2)
        · have e1 : Lib.decodeN 3 b0 c1 c2 c3 = Lib.decodeN n b0 c1 c2 b3 := by
            unfold Lib.decodeN
            rw [if_neg g0, if_neg g0, if_pos ⟨g1.1, by omega, g1.2.2⟩, if_pos g1]
          have hle : (Lib.decodeN n b0 c1 c2 b3).2 ≤ 2 := by
            unfold Lib.decodeN
            rw [if_neg g0, if_pos g1]
            split
            all_goals simp
          exact ⟨fun _ => e1, fun h => absurd h (by omega)⟩
        · by_cases g2 : b0 / 16 = 14 ∧ (1 < n ∧ c1 / 64 = 2) ∧ (2 < n ∧ c2 / 64 = 2)
          · have e1 : Lib.decodeN 3 b0 c1 c2 c3 = Lib.decodeN n b0 c1 c2 b3 := by
              unfold Lib.decodeN
              rw [if_neg g0, if_neg g0, if_neg (by omega), if_neg g1, if_pos (by omega), if_pos g2]
            have hle : (Lib.decodeN n b0 c1 c2 b3).2 ≤ 3 := by
              unfold Lib.decodeN
              rw [if_neg g0, if_neg g1, if_pos g2]
              split
              all_goals simp
            exact ⟨fun _ => e1, fun h => absurd h (by omega)⟩
          · have e2 : Lib.decodeN 3 b0 c1 c2 c3 = (65533, 1) := by
              unfold Lib.decodeN
              rw [if_neg g0, if_neg (by omega), if_neg (by omega), if_neg (by omega)]
            refine ⟨?_, fun _ => e2⟩
            rw [e2]
            unfold Lib.decodeN
            rw [if_neg g0, if_neg g1, if_neg g2]
            repeat' split
            all_goals first | (intro _; rfl) | (intro h; simp only at h; omega)

theorem dL_le (u : List Nat) (h : u ≠ []) : (dL u).2 ≤ u.length := decN_le _ _ _ _ _ (List.length_pos_iff.2 h)
theorem dL_low (c : Nat) (u : List Nat) (h : c < 128) : dL (c :: u) = (c, 1) := decN_low _ _ _ _ _ h
theorem dL_lt {u : List Nat} (h : (dL u).1 < 128) : (dL u).2 = 1 := by
  by_cases h0 : u.getD 0 0 < 128
  · rw [dL, decN_low _ _ _ _ _ h0]
  · have := decN_ge u.length (u.getD 0 0) (u.getD 1 0) (u.getD 2 0) (u.getD 3 0) h0
    rw [dL] at h
    omega
theorem getD_left (x q : List Nat) (i : Nat) (h : i < x.length) : (x ++ q).getD i 0 = x.getD i 0 := by
  rw [List.getD_eq_getElem?_getD, List.getD_eq_getElem?_getD, List.getElem?_append_left h]
theorem dL_cut (x q : List Nat) (hx : x ≠ []) : ((dL (x ++ q)).2 ≤ x.length → dL x = dL (x ++ q)) ∧ (x.length < (dL (x ++ q)).2 → dL x = (65533, 1)) := by
  have hl := List.length_pos_iff.2 hx
  have h := decodeN_cut (x ++ q).length x.length ((x ++ q).getD 0 0) ((x ++ q).getD 1 0) ((x ++ q).getD 2 0) ((x ++ q).getD 3 0) (x.getD 1 0) (x.getD 2 0) (x.getD 3 0) hl (by simp)
    (fun h => (getD_left x q 1 h).symm) (fun h => (getD_left x q 2 h).symm) (fun h => (getD_left x q 3 h).symm)
  have e : dL x = Lib.decodeN x.length ((x ++ q).getD 0 0) (x.getD 1 0) (x.getD 2 0) (x.getD 3 0) := by rw [dL, getD_left x q 0 hl]
  rw [e]
  exact h
theorem dL_ext (x : List Nat) (c : Nat) (z : List Nat) (hx : x ≠ []) (hc : c < 128) : dL (x ++ c :: z) = dL x := by
  have hl := List.length_pos_iff.2 hx
  have hg : (x ++ c :: z).getD x.length 0 = c := by rw [List.getD_eq_getElem?_getD, List.getElem?_append_right (Nat.le_refl _), Nat.sub_self]; rfl
  refine ((dL_cut x (c :: z) hx).1 (decN_stop _ _ _ _ _ _ hl (fun h => ?_) (fun h => ?_) (fun h => ?_))).symm
  · rw [h] at hg; rw [hg]; exact hc
  · rw [h] at hg; rw [hg]; exact hc
  · rw [h] at hg; rw [hg]; exact hc

/-- How many bytes of a text are such runes. -/
def runL (f : Nat → Bool) : Nat → List Nat → Nat
  | 0, _ => 0
  | k + 1, u => if u = [] then 0 else if f (dL u).1 then (dL u).2 + runL f k (u.drop (dL u).2) else 0
def runA (f : Nat → Bool) (u : List Nat) : Nat := runL f u.length u
theorem runL_more (f : Nat → Bool) : ∀ k u, u.length ≤ k → runL f k u = runA f u := by
  intro k
  induction k using Nat.strongRecOn with
  | _ k ih =>
    intro u h
    by_cases hu : u = []
    · subst hu; cases k <;> rfl
    · have h1 := List.length_pos_iff.2 hu
      have h2 := dL_pos u
      obtain ⟨k, rfl⟩ : ∃ j, k = j + 1 := ⟨k - 1, by omega⟩
      obtain ⟨m, hm⟩ : ∃ m, u.length = m + 1 := ⟨u.length - 1, by omega⟩
      rw [runA, hm, runL, runL, if_neg hu, if_neg hu]
      rw [ih k (by omega) _ (by rw [List.length_drop]; omega)]
      by_cases hk : m < k + 1
      · rw [ih m hk _ (by rw [List.length_drop]; omega)]
      · omega
theorem runA_nil (f : Nat → Bool) : runA f [] = 0 := rfl
theorem runA_step (f : Nat → Bool) (u : List Nat) (h : u ≠ []) : runA f u = if f (dL u).1 then (dL u).2 + runA f (u.drop (dL u).2) else 0 := by
  have h1 := List.length_pos_iff.2 h
  have h2 := dL_pos u
  obtain ⟨m, hm⟩ : ∃ m, u.length = m + 1 := ⟨u.length - 1, by omega⟩
  rw [runA, hm, runL, if_neg h, runL_more f m _ (by rw [List.length_drop]; omega)]
theorem runA_le (f : Nat → Bool) : ∀ k (u : List Nat), u.length ≤ k → runA f u ≤ u.length := by
  intro k
  induction k with
  | zero => intro u h; have : u = [] := List.eq_nil_of_length_eq_zero (by omega); subst this; exact Nat.le_refl _
  | succ k ih =>
    intro u h
    by_cases hu : u = []
    · subst hu; exact Nat.le_refl _
    · have h2 := dL_pos u
      have h3 := dL_le u hu
      rw [runA_step f u hu]
      split
      · have := ih (u.drop (dL u).2) (by rw [List.length_drop]; omega)
        rw [List.length_drop] at this
        omega
      · omega
/-- What a run met at its end. -/
theorem runA_stop (f : Nat → Bool) : ∀ k (u : List Nat), u.length ≤ k → runA f u < u.length → f (dL (u.drop (runA f u))).1 = false := by
  intro k
  induction k with
  | zero => intro u h h1; omega
  | succ k ih =>
    intro u h h1
    have hu : u ≠ [] := by intro e; subst e; exact absurd h1 (by simp)
    have h2 := dL_pos u
    have h3 := dL_le u hu
    rw [runA_step f u hu] at h1 ⊢
    split at h1
    next hf =>
      rw [if_pos hf, ← List.drop_drop]
      exact ih _ (by rw [List.length_drop]; omega) (by rw [List.length_drop]; omega)
    next hf =>
      rw [if_neg hf, List.drop_zero]
      simpa using hf
theorem run_swap (f : Nat → Bool) (hf : f 65533 = false ∨ ∀ u, f (dL u).1 = false → (dL u).2 = 1) (q z : List Nat) : ∀ k (x : List Nat), x.length ≤ k → runA f (x ++ q) ≤ x.length →
    (z = [] ∨ ∃ c z', z = c :: z' ∧ c < 128 ∧ (runA f (x ++ q) = x.length → f c = false)) → runA f (x ++ z) = runA f (x ++ q) := by
  intro k
  induction k with
  | zero =>
    intro x hx hn hz
    have e : x = [] := List.eq_nil_of_length_eq_zero (by omega)
    subst e
    have hn0 : runA f q = 0 := by simpa using hn
    rcases hz with rfl | ⟨c, z', rfl, hc, hs⟩
    · simp [hn0, runA_nil]
    · simp only [List.nil_append]
      rw [runA_step f _ (by simp), dL_low c z' hc, hs (by simpa using hn0)]
      simp [hn0]
  | succ k ih =>
    intro x hx hn hz
    by_cases e : x = []
    · exact ih x (by subst e; simp) hn hz
    · have hd := dL_cut x q e
      have hext : dL (x ++ z) = dL x := by
        rcases hz with rfl | ⟨c, z', rfl, hc, hs⟩
        · rw [List.append_nil]
        · exact dL_ext x c z' e hc
      rw [runA_step f (x ++ z) (by simp [e]), runA_step f (x ++ q) (by simp [e]), hext]
      rw [runA_step f (x ++ q) (by simp [e])] at hn hz
      have hp := dL_pos (x ++ q)
      by_cases h1 : f (dL (x ++ q)).1 = true
      · rw [if_pos h1] at hn hz ⊢
        have h2 : (dL (x ++ q)).2 ≤ x.length := by omega
        rw [hd.1 h2, if_pos h1, List.drop_append_of_le_length h2, List.drop_append_of_le_length h2]
        rw [List.drop_append_of_le_length h2] at hn hz
        rw [ih (x.drop (dL (x ++ q)).2) (by rw [List.length_drop]; omega) (by rw [List.length_drop]; omega)]
        rcases hz with rfl | ⟨c, z', rfl, hc, hs⟩
        · exact .inl rfl
        · exact .inr ⟨c, z', rfl, hc, fun h => hs (by rw [h, List.length_drop]; omega)⟩
      · rw [if_neg h1]
        have h1' : f (dL (x ++ q)).1 = false := by simpa using h1
        have hlen := List.length_pos_iff.2 e
        by_cases h2 : (dL (x ++ q)).2 ≤ x.length
        · rw [hd.1 h2, if_neg h1]
        · rcases hf with hf | hf
          · rw [hd.2 (by omega)]
            simp [hf]
          · have := hf _ h1'
            omega
end Go.Proofs.YteipadogmdppgaaDoor
