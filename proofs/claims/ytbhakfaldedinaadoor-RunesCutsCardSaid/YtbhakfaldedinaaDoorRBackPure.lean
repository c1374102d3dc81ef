/- Plain laws: runes that are put are read. -/
import Derived.Test.YtbhakfaldedinaaDoorRPut
import Derived.Test.YtbhakfaldedinaaDoorRRefNext
import Derived.Test.YtbhakfaldedinaaDoorRCount
namespace Go.Proofs.YtbhakfaldedinaaDoor
set_option linter.unusedVariables false
set_option linter.unusedSimpArgs false
open Go.RowKit Go.Proofs.YtbhakfaldedinaaDoorW.PrintWords

theorem bt8_list (s : ByteArray) (i : Nat) : bt8 s i = (s.data.toList.getD i 0).toNat := by
  obtain ⟨d⟩ := s
  show (d[i]!).toNat = (d.toList.getD i 0).toNat
  rw [List.getD_eq_getElem?_getD, Array.getElem?_toList, getElem!_def]
  cases d[i]? with
  | none => rfl
  | some x => rfl
theorem bt8_mid (p t q : ByteArray) (j : Nat) (h : j < t.size) : bt8 (p ++ t ++ q) (p.size + j) = bt8 t j := by
  have hp : p.data.toList.length = p.size := Array.length_toList
  have ht : t.data.toList.length = t.size := Array.length_toList
  rw [bt8_list, bt8_list]
  simp only [ByteArray.data_append, Array.toList_append]
  rw [List.getD_eq_getElem?_getD, List.append_assoc, List.getElem?_append_right (by omega), hp, Nat.add_sub_cancel_left, List.getElem?_append_left (by omega), ← List.getD_eq_getElem?_getD]
theorem bt8_nums (xs : List Int) (j : Nat) (h : j < xs.length) : bt8 (strOfNums xs) j = (xs.getD j 0).toNat % 256 := by
  rw [bt8_list]
  simp only [strOfNums]
  rw [List.getD_eq_getElem?_getD, List.getD_eq_getElem?_getD, List.getElem?_map, List.getElem?_eq_getElem h]
  simp

theorem putS_size (r : Int) : (putS r).size ≤ 4 := by
  unfold putS
  split
  · rw [strOfNums_size]
    unfold putF
    repeat' split
    all_goals simp
  · decide

/-- A rune that is put, whatever stands ahead of it and behind it. -/
theorem dec_put (p q : ByteArray) (c : Nat) (h : okR (c : Int)) : Utf8.decode (p ++ putS (c : Int) ++ q) p.size = (c, (putS (c : Int)).size) := by
  have hs : putS (c : Int) = strOfNums (putF c) := by rw [putS, if_pos h]; rfl
  have h' := h
  unfold okR at h'
  have hb : ∀ j, j < (putF c).length → bt8 (p ++ putS (c : Int) ++ q) (p.size + j) = ((putF c).getD j 0).toNat % 256 := by
    intro j hj
    rw [bt8_mid _ _ _ _ (by rw [hs, strOfNums_size]; exact hj), hs, bt8_nums _ _ hj]
  have hz : (p ++ putS (c : Int) ++ q).size = p.size + (putF c).length + q.size := by
    rw [ByteArray.size_append, ByteArray.size_append, hs, strOfNums_size]
  rw [Lib.decode_at, hs, strOfNums_size, ← hs, hz]
  show Lib.decodeN _ (bt8 _ p.size) (bt8 _ (p.size + 1)) (bt8 _ (p.size + 2)) (bt8 _ (p.size + 3)) = _
  have b0 := hb 0
  have b1 := hb 1
  have b2 := hb 2
  have b3 := hb 3
  clear hb hz hs h
  obtain ⟨L, hL⟩ : ∃ L, (putF c).length = L := ⟨_, rfl⟩
  rw [hL] at b0 b1 b2 b3 ⊢
  generalize bt8 (p ++ putS (c : Int) ++ q) (p.size + 3) = y3 at *
  generalize bt8 (p ++ putS (c : Int) ++ q) (p.size + 2) = y2 at *
  generalize bt8 (p ++ putS (c : Int) ++ q) (p.size + 1) = y1 at *
  rw [Nat.add_zero] at b0
  generalize bt8 (p ++ putS (c : Int) ++ q) p.size = y0 at *
  unfold Lib.decodeN
  by_cases g1 : c < 128
  · have e : putF c = [(c : Int)] := by rw [putF, if_pos g1]
    have hL1 : L = 1 := by rw [← hL, e]; rfl
    rw [e] at b0
    have c0 : y0 = (c : Int).toNat % 256 := b0 (by omega)
    rw [if_pos (by omega)]
    simp only [Prod.mk.injEq]
    omega
  · by_cases g2 : c < 2048
    · have e : putF c = [192 + (c : Int) / 64, 128 + (c : Int) % 64] := by rw [putF, if_neg g1, if_pos g2]
      have hL1 : L = 2 := by rw [← hL, e]; rfl
      rw [e] at b0 b1
      have c0 : y0 = (192 + (c : Int) / 64).toNat % 256 := b0 (by omega)
      have c1 : y1 = (128 + (c : Int) % 64).toNat % 256 := b1 (by omega)
      rw [if_neg (by omega), if_pos (by omega), if_pos (by omega)]
      simp only [Prod.mk.injEq]
      omega
    · by_cases g3 : c < 65536
      · have e : putF c = [224 + (c : Int) / 4096, 128 + (c : Int) / 64 % 64, 128 + (c : Int) % 64] := by rw [putF, if_neg g1, if_neg g2, if_pos g3]
        have hL1 : L = 3 := by rw [← hL, e]; rfl
        rw [e] at b0 b1 b2
        have c0 : y0 = (224 + (c : Int) / 4096).toNat % 256 := b0 (by omega)
        have c1 : y1 = (128 + (c : Int) / 64 % 64).toNat % 256 := b1 (by omega)
        have c2 : y2 = (128 + (c : Int) % 64).toNat % 256 := b2 (by omega)
        rw [if_neg (by omega), if_neg (by omega), if_pos (by omega), if_pos (by omega)]
        simp only [Prod.mk.injEq]
        omega
      · have e : putF c = [240 + (c : Int) / 262144, 128 + (c : Int) / 4096 % 64, 128 + (c : Int) / 64 % 64, 128 + (c : Int) % 64] := by rw [putF, if_neg g1, if_neg g2, if_neg g3]
        have hL1 : L = 4 := by rw [← hL, e]; rfl
        rw [e] at b0 b1 b2 b3
        have c0 : y0 = (240 + (c : Int) / 262144).toNat % 256 := b0 (by omega)
        have c1 : y1 = (128 + (c : Int) / 4096 % 64).toNat % 256 := b1 (by omega)
        have c2 : y2 = (128 + (c : Int) / 64 % 64).toNat % 256 := b2 (by omega)
        have c3 : y3 = (128 + (c : Int) % 64).toNat % 256 := b3 (by omega)
        rw [if_neg (by omega), if_neg (by omega), if_neg (by omega), if_pos (by omega), if_pos (by omega)]
        simp only [Prod.mk.injEq]
        omega

/-- The bytes of runes, one behind the other. -/
def putL (l : List Nat) : ByteArray := l.foldl (fun (s : ByteArray) (c : Nat) => s ++ putS (c : Int)) ByteArray.empty
theorem putS_pos (c : Nat) (h : okR (c : Int)) : 1 ≤ (putS (c : Int)).size := by
  rw [putS, if_pos h, strOfNums_size, Int.toNat_natCast]
  unfold putF
  repeat' split
  all_goals exact Nat.succ_le_succ (Nat.zero_le _)
/-- Runes from a place on. -/
theorem runes_put (l : List Nat) : ∀ (p : ByteArray) (k : Nat), (∀ c ∈ l, okR (c : Int)) → l.length ≤ k → runesF (l.foldl (fun (s : ByteArray) (c : Nat) => s ++ putS (c : Int)) p) k p.size = some l := by
  induction l with
  | nil =>
    intro p k _ _
    exact runesF_end _ _ _ (by simp)
  | cons c l ih =>
    intro p k h hk
    have hc := h c (List.mem_cons_self ..)
    have hl : ∀ (l : List Nat) (p : ByteArray), ∃ q, l.foldl (fun (s : ByteArray) (c : Nat) => s ++ putS (c : Int)) p = p ++ q := by
      intro l
      induction l with
      | nil => intro p; exact ⟨ByteArray.empty, by simp⟩
      | cons c l ih =>
        intro p
        obtain ⟨q, hq⟩ := ih (p ++ putS (c : Int))
        exact ⟨putS (c : Int) ++ q, by rw [List.foldl_cons, hq, ByteArray.append_assoc]⟩
    obtain ⟨q, hq⟩ := hl l (p ++ putS (c : Int))
    have hd := dec_put p q c hc
    have h1 := putS_pos c hc
    simp only [List.length_cons] at hk
    obtain ⟨k, rfl⟩ : ∃ k', k = k' + 1 := ⟨k - 1, by omega⟩
    have h2 := ih (p ++ putS (c : Int)) k (fun x hx => h x (List.mem_cons_of_mem _ hx)) (by omega)
    rw [List.foldl_cons]
    rw [hq] at h2 ⊢
    rw [runesF_step _ _ _ (by rw [ByteArray.size_append, ByteArray.size_append]; omega), hd]
    simp only
    rw [if_neg (by
      intro hh
      have h3 := hh.2
      have h4 := hh.1
      subst h4
      exact absurd h3 (by decide +kernel)), show p.size + (putS (c : Int)).size = (p ++ putS (c : Int)).size from (ByteArray.size_append ..).symm, h2]
    rfl

theorem foldl_size (l : List Nat) (h : ∀ c ∈ l, okR (c : Int)) : ∀ p : ByteArray, p.size + l.length ≤ (l.foldl (fun (s : ByteArray) (c : Nat) => s ++ putS (c : Int)) p).size ∧ (l.foldl (fun (s : ByteArray) (c : Nat) => s ++ putS (c : Int)) p).size ≤ p.size + 4 * l.length := by
  induction l with
  | nil => intro p; simp
  | cons c l ih =>
    intro p
    have h1 := putS_pos c (h c (List.mem_cons_self ..))
    have h2 := putS_size (c : Int)
    have h3 := ih (fun x hx => h x (List.mem_cons_of_mem _ hx)) (p ++ putS (c : Int))
    rw [ByteArray.size_append] at h3
    rw [List.foldl_cons, List.length_cons]
    omega
theorem putL_size (l : List Nat) (h : ∀ c ∈ l, okR (c : Int)) : l.length ≤ (putL l).size ∧ (putL l).size ≤ 4 * l.length := by
  have h1 := foldl_size l h ByteArray.empty
  rw [ByteArray.size_empty, Nat.zero_add, Nat.zero_add] at h1
  exact h1
theorem runesG_put (l : List Nat) (h : ∀ c ∈ l, okR (c : Int)) : runesG (putL l) = some l := by
  have h1 := runes_put l ByteArray.empty (putL l).size h (putL_size l h).1
  exact h1
theorem putL_snoc (l : List Nat) (c : Nat) : putL (l ++ [c]) = putL l ++ putS (c : Int) := by
  unfold putL
  rw [List.foldl_append]
  rfl
/-- The runes among the numbers. -/
def goodN (xs : List Int) : List Nat := (xs.filter fun r => decide (okR r)).map Int.toNat
theorem goodN_ok (xs : List Int) : ∀ c ∈ goodN xs, okR (c : Int) := by
  intro c hc
  obtain ⟨r, hr, rfl⟩ := List.mem_map.1 hc
  have h := of_decide_eq_true (List.mem_filter.1 hr).2
  have h' := h
  unfold okR at h'
  rw [Int.toNat_of_nonneg (by omega)]
  exact h
theorem goodN_snoc (xs : List Int) (r : Int) : goodN (xs ++ [r]) = if okR r then goodN xs ++ [r.toNat] else goodN xs := by
  unfold goodN
  rw [List.filter_append]
  by_cases h : okR r
  · rw [if_pos h, List.filter_cons_of_pos (by exact decide_eq_true h)]
    simp
  · rw [if_neg h, List.filter_cons_of_neg (by simpa using h)]
    simp
theorem goodN_le (xs : List Int) : (goodN xs).length ≤ xs.length := by
  unfold goodN
  rw [List.length_map]
  exact List.length_filter_le _ _
theorem nextG_put (c : Nat) (h : okR (c : Int)) : nextG (putS (c : Int)) 0 = (c, (putS (c : Int)).size, true) := by
  have h1 := putS_pos c h
  have hd := dec_put ByteArray.empty ByteArray.empty c h
  rw [ByteArray.empty_append, ByteArray.append_empty, ByteArray.size_empty] at hd
  rw [nextG, if_neg (by omega), show ((0 : Int)).toNat = 0 from rfl, hd]
  simp only
  rw [if_neg (by
    intro hh
    have h3 := hh.2
    have h4 := hh.1
    subst h4
    exact absurd h3 (by decide +kernel))]
end Go.Proofs.YtbhakfaldedinaaDoor
