/- Plain laws of records. -/
import Derived.Test.YtkmhifacpkiefaaWLaid
import Derived.Test.YtkmhifacpkiefaaCTurnsPure
namespace Go.Proofs.Ytkmhifacpkiefaa
set_option linter.unusedVariables false
set_option linter.unusedSimpArgs false
open Go.RowKit Go.Proofs.YtkmhifacpkiefaaW.PrintWords

def flat (ts : List (List Int)) : List Int := ts.flatMap recB
def Body (t : List Int) : Prop := 1 ≤ t.length ∧ t.length ≤ 16384

theorem drop_pre (p l : List Int) (i : Nat) : (p ++ l).drop (p.length + i) = l.drop i := by rw [List.drop_append, List.drop_eq_nil_of_le (by omega), List.nil_append]; congr 1; omega

/-- A record that begins as one is put, whatever stands in the sum's place and behind. -/
theorem next1_head (p s b q : List Int) (n : Nat) (hn : 1 ≤ n) (hn2 : n ≤ 16384) (hs : s.length = 4) (hb : b.length = n) :
    next1 (p ++ (enc 10 n ++ (s ++ (b ++ q)))) p.length = if low4 (crcF (crcF 0 (enc 10 n)) b) = s then some (b, p.length + (enc 10 n).length + 4 + n) else none := by
  have hg := getF_enc p (s ++ (b ++ q)) n (by omega)
  have hl : (p ++ (enc 10 n ++ (s ++ (b ++ q)))).length = p.length + (enc 10 n).length + 4 + n + q.length := by simp only [List.length_append, hs, hb]; omega
  rw [next1, hg]
  simp only [Int.toNat_natCast]
  rw [hl, if_neg (by omega)]
  have e1 : ((p ++ (enc 10 n ++ (s ++ (b ++ q)))).drop p.length).take (p.length + (enc 10 n).length - p.length) = enc 10 n := by
    have := drop_pre p (enc 10 n ++ (s ++ (b ++ q))) 0
    rw [Nat.add_zero] at this
    rw [this, List.drop_zero, Nat.add_sub_cancel_left, List.take_left]
  have e2 : (p ++ (enc 10 n ++ (s ++ (b ++ q)))).drop (p.length + (enc 10 n).length) = s ++ (b ++ q) := by rw [drop_pre, List.drop_left]
  have e3 : (p ++ (enc 10 n ++ (s ++ (b ++ q)))).drop (p.length + (enc 10 n).length + 4) = b ++ q := by
    rw [← List.drop_drop, e2, ← hs, List.drop_left]
  rw [e1, e2, e3, ← hs, List.take_left, ← hb, List.take_left, hs]

theorem next1_rec (p q t : List Int) (h : Body t) : next1 (p ++ (recB t ++ q)) p.length = some (t, p.length + (recB t).length) := by
  have := next1_head p (low4 (crcF (crcF 0 (enc 10 t.length)) t)) t q t.length h.1 h.2 rfl rfl
  rw [if_pos rfl] at this
  rw [recB_length, ← Nat.add_assoc, ← Nat.add_assoc, ← this]
  simp [recB, List.append_assoc]

theorem recs_flat (ts : List (List Int)) (h : ∀ t ∈ ts, Body t) : ∀ (p q : List Int) (k : Nat), recsF (k + ts.length) (p ++ (flat ts ++ q)) p.length =
    (ts ++ (recsF k (p ++ (flat ts ++ q)) (p.length + (flat ts).length)).1, (recsF k (p ++ (flat ts ++ q)) (p.length + (flat ts).length)).2) := by
  induction ts with
  | nil => intro p q k; simp [flat]
  | cons t ts ih =>
    intro p q k
    have e0 : flat (t :: ts) = recB t ++ flat ts := by simp [flat]
    have hn := next1_rec p (flat ts ++ q) t (h t (List.mem_cons_self ..))
    rw [e0, List.append_assoc, List.length_cons, ← Nat.add_assoc, recsF_go _ _ _ _ _ hn]
    have h2 := ih (fun u hu => h u (List.mem_cons_of_mem _ hu)) (p ++ recB t) q k
    rw [List.length_append, List.append_assoc] at h2
    rw [h2]
    simp only [List.length_append, Nat.add_assoc, List.cons_append]

theorem flat_length_ge (ts : List (List Int)) (h : ∀ t ∈ ts, Body t) : ts.length ≤ (flat ts).length := by
  induction ts with
  | nil => simp
  | cons t ts ih =>
    have h1 := ih (fun u hu => h u (List.mem_cons_of_mem _ hu))
    have h2 := (h t (List.mem_cons_self ..)).1
    have e0 : flat (t :: ts) = recB t ++ flat ts := by simp [flat]
    rw [e0, List.length_append, recB_length, List.length_cons]
    omega

/-- What is told of records behind which there is none. -/
theorem recs_stop (ts : List (List Int)) (h : ∀ t ∈ ts, Body t) (q : List Int) (hq : next1 (flat ts ++ q) (flat ts).length = none) :
    recsF ((flat ts ++ q).length + 1) (flat ts ++ q) 0 = (ts, (flat ts).length) := by
  have hl := flat_length_ge ts h
  obtain ⟨k, hk⟩ : ∃ k, (flat ts ++ q).length + 1 = (k + 1) + ts.length := ⟨(flat ts ++ q).length - ts.length, by simp only [List.length_append]; omega⟩
  have h1 := recs_flat ts h [] q (k + 1)
  simp only [List.nil_append, List.length_nil, Nat.zero_add] at h1
  rw [hk, h1, recsF_stop _ _ _ hq]
  simp

theorem next1_nil (ts : List (List Int)) : next1 (flat ts ++ []) (flat ts).length = none := next1_end _ _ (by simp)

theorem next1_zero (p q : List Int) : next1 (p ++ (0 :: q)) p.length = none := by
  refine next1_none _ _ (.inr (.inl ?_))
  have : getF (p ++ (0 :: q)) p.length = (0, (p.length : Int) + 1, 0) := by
    unfold getF
    rw [if_neg (by simp only [List.length_append, List.length_cons]; omega), Int.toNat_natCast, List.drop_left, getL, if_neg (by omega), if_neg (by omega), if_neg (by omega)]
    simp
  rw [this]
  show (0 : Int) < 1
  omega

/-- A record that is cut is none. -/
theorem next1_cut (p t : List Int) (j : Nat) (h : Body t) (hj : j < (recB t).length) : next1 (p ++ (recB t).take j) p.length = none := by
  have h2 := h.2
  rcases Nat.lt_or_ge j (enc 10 t.length).length with h1 | h1
  · refine next1_none _ _ (.inl ?_)
    have e : (recB t).take j = (enc 10 t.length).take j := by
      rw [recB, List.append_assoc, List.take_append_of_le_length (by omega)]
    rw [e]
    have : getF (p ++ (enc 10 t.length).take j) p.length = (0, 0, 2) := by
      unfold getF
      rw [if_neg (by simp only [List.length_append]; omega), Int.toNat_natCast, List.drop_left]
      exact getL_cut _ 10 t.length 0 j 0 (by omega) (by omega) h1
    rw [this]
    decide
  · refine next1_none _ _ (.inr (.inr (.inr ?_)))
    have e : (recB t).take j = enc 10 t.length ++ ((low4 (crcF (crcF 0 (enc 10 t.length)) t) ++ t).take (j - (enc 10 t.length).length)) := by
      rw [recB, List.append_assoc, List.take_append, List.take_of_length_le h1]
    rw [e, getF_enc _ _ _ (by omega)]
    rw [recB_length] at hj
    simp only [List.length_append, List.length_take, low4_length]
    omega

theorem low4_inj (a b : Nat) (ha : a < 4294967296) (hb : b < 4294967296) (h : low4 a = low4 b) : a = b := by
  simp only [low4, List.cons.injEq, and_true] at h
  omega

theorem crcF_one (s : Nat) (a q : List Int) (x y : Int) (ha : ∀ z ∈ a, 0 ≤ z ∧ z ≤ 255) (hq : ∀ z ∈ q, 0 ≤ z ∧ z ≤ 255) (hx : 0 ≤ x ∧ x ≤ 255) (hy : 0 ≤ y ∧ y ≤ 255) (h : crcF s (a ++ x :: q) = crcF s (a ++ y :: q)) : x = y := by
  unfold crcF at h
  rw [reg_append, reg_append] at h
  have hs := reg_lt a ha (inv32 s) (inv32_lt s)
  generalize reg (inv32 s) a = r at h hs
  rw [reg_cons', reg_cons'] at h
  have L : ∀ {z : Int}, 0 ≤ z ∧ z ≤ 255 → steps 8 (r ^^^ z.toNat) < 4294967296 := fun hz => steps_lt 8 _ (xlt hs (by omega))
  have h2 := inv32_inj (reg_lt q hq _ (L hx)) (reg_lt q hq _ (L hy)) h
  have h3 := reg_inj q hq _ _ (L hx) (L hy) h2
  have h4 := steps_inj 8 _ _ (xlt hs (by omega)) (xlt hs (by omega)) h3
  have h5 : r ^^^ r ^^^ x.toNat = r ^^^ r ^^^ y.toNat := by rw [Nat.xor_assoc, Nat.xor_assoc, h4]
  simp only [Nat.xor_self, Nat.zero_xor] at h5
  omega

theorem set_split (t : List Int) (i : Nat) (v : Int) (h : i < t.length) : ∃ a b, t = a ++ t.getD i 0 :: b ∧ t.set i v = a ++ v :: b ∧ a.length = i := by
  refine ⟨t.take i, t.drop (i + 1), ?_, ?_, by simp; omega⟩
  · have h1 := List.take_append_drop i t
    rw [List.drop_eq_getElem_cons h] at h1
    rw [List.getD_eq_getElem?_getD, List.getElem?_eq_getElem h]
    exact h1.symm
  · rw [List.set_eq_take_append_cons_drop, if_pos h]

/-- A byte turned in a record's sum or body. -/
theorem next1_turned (p q t : List Int) (h : Body t) (h127 : t.length ≤ 127) (hw : ∀ x ∈ t, 0 ≤ x ∧ x ≤ 255) (j : Nat) (hj : 1 ≤ j) (hj2 : j < (recB t).length) (v : Int) (hv : 0 ≤ v ∧ v ≤ 255) (hne : v ≠ (recB t).getD j 0) :
    next1 (p ++ ((recB t).set j v ++ q)) p.length = none := by
  have he : enc 10 t.length = [(t.length : Int)] := enc_small 9 _ (by omega)
  rw [recB_length, he] at hj2
  simp only [List.length_singleton] at hj2
  have h1 := h.1
  obtain ⟨i, rfl⟩ : ∃ i, j = i + 1 := ⟨j - 1, by omega⟩
  obtain ⟨S, hS⟩ : ∃ S, crcF (crcF 0 (enc 10 t.length)) t = S := ⟨_, rfl⟩
  have hr : recB t = (t.length : Int) :: (low4 S ++ t) := by rw [recB, hS, he]; simp
  rcases Nat.lt_or_ge i 4 with h4 | h4
  · have e1 : (recB t).set (i + 1) v ++ q = enc 10 t.length ++ ((low4 S).set i v ++ (t ++ q)) := by
      rw [hr, he, List.set_cons_succ, List.set_append_left _ _ (by rw [low4_length]; exact h4)]
      simp
    have e2 : (recB t).getD (i + 1) 0 = (low4 S).getD i 0 := by
      rw [hr, List.getD_cons_succ, List.getD_eq_getElem?_getD, List.getElem?_append_left (by rw [low4_length]; exact h4), ← List.getD_eq_getElem?_getD]
    rw [e1, next1_head p _ t q t.length h1 (by omega) (by rw [List.length_set, low4_length]) rfl, hS, if_neg]
    intro hc
    obtain ⟨a, b, ha, hb, hl⟩ := set_split (low4 S) i v (by rw [low4_length]; exact h4)
    rw [hb] at hc
    conv at hc => lhs; rw [ha]
    have := List.append_cancel_left hc
    simp only [List.cons.injEq, and_true] at this
    exact hne (by rw [e2, this])
  · obtain ⟨m, rfl⟩ : ∃ m, i = m + 4 := ⟨i - 4, by omega⟩
    have hm : m < t.length := by omega
    have e1 : (recB t).set (m + 4 + 1) v ++ q = enc 10 t.length ++ (low4 S ++ (t.set m v ++ q)) := by
      rw [hr, he, List.set_cons_succ, List.set_append_right _ _ (by rw [low4_length]; omega), low4_length, Nat.add_sub_cancel]
      simp
    have e2 : (recB t).getD (m + 4 + 1) 0 = t.getD m 0 := by
      rw [hr, List.getD_cons_succ, List.getD_eq_getElem?_getD, List.getElem?_append_right (by rw [low4_length]; omega), low4_length, Nat.add_sub_cancel, ← List.getD_eq_getElem?_getD]
    rw [e1, next1_head p _ (t.set m v) q t.length h1 (by omega) (low4_length _) (by rw [List.length_set]), if_neg]
    intro hc
    have hc2 := low4_inj _ _ (crcF_lt _ _) (by rw [← hS]; exact crcF_lt _ _) hc
    rw [← hS] at hc2
    obtain ⟨a, b, ha, hb, hl⟩ := set_split t m v hm
    rw [hb] at hc2
    have hxa : ∀ z ∈ a, 0 ≤ z ∧ z ≤ 255 := fun z hz => hw z (by rw [ha]; simp [hz])
    have hxb : ∀ z ∈ b, 0 ≤ z ∧ z ≤ 255 := fun z hz => hw z (by rw [ha]; simp [hz])
    have hx : 0 ≤ t.getD m 0 ∧ t.getD m 0 ≤ 255 := by
      rw [List.getD_eq_getElem?_getD, List.getElem?_eq_getElem hm]
      exact hw _ (List.getElem_mem hm)
    generalize crcF 0 (enc 10 t.length) = s0 at hc2
    conv at hc2 => rhs; rw [ha]
    exact hne (by rw [e2]; exact crcF_one s0 a b v _ hxa hxb hv hx hc2)
end Go.Proofs.Ytkmhifacpkiefaa
