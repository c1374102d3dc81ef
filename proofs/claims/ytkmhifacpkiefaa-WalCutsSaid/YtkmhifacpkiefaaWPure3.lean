/- Plain laws of records that are cut or turned. -/
import Derived.Test.YtkmhifacpkiefaaWBack
namespace Go.Proofs.Ytkmhifacpkiefaa
set_option linter.unusedVariables false
set_option linter.unusedSimpArgs false
open Go.RowKit Go.Proofs.YtkmhifacpkiefaaW.PrintWords

theorem flat_append (a b : List (List Int)) : flat (a ++ b) = flat a ++ flat b := by unfold flat; rw [List.flatMap_append]
theorem flat_snoc (us : List (List Int)) (n : Nat) (h : n < us.length) : flat (us.take (n + 1)) = flat (us.take n) ++ recB (us.getD n []) := by
  rw [take_succ_getD us n h, flat_append]
  simp [flat]
theorem flat_split (us : List (List Int)) (n : Nat) (h : n < us.length) : flat us = flat (us.take n) ++ (recB (us.getD n []) ++ flat (us.drop (n + 1))) := by
  have e : us = us.take (n + 1) ++ us.drop (n + 1) := (List.take_append_drop (n + 1) us).symm
  conv => lhs; rw [e]
  rw [flat_append, flat_snoc us n h, List.append_assoc]
theorem ends_at (us : List (List Int)) : ∀ (p n : Nat), n < us.length → (endsF p us).getD n 0 = ((p + (flat (us.take (n + 1))).length : Nat) : Int) := by
  induction us with
  | nil => intro p n h; simp at h
  | cons t us ih =>
    intro p n h
    cases n with
    | zero => simp [endsF, flat]
    | succ n =>
      simp only [endsF, List.getD_cons_succ]
      rw [ih _ _ (by simpa using h)]
      simp [flat, Nat.add_assoc]
theorem take_mem_body {us : List (List Int)} (h : ∀ t ∈ us, Body t) (n : Nat) : ∀ t ∈ us.take n, Body t := fun t ht => h t (List.mem_of_mem_take ht)

/-- Records that are cut at k. -/
theorem cut_law (us : List (List Int)) (h : ∀ t ∈ us, Body t) (n k : Nat) (h1 : (flat (us.take n)).length ≤ k) (h2 : n = us.length ∨ (n < us.length ∧ k < (flat (us.take (n + 1))).length)) (hk : k ≤ (flat us).length) :
    recsF (((flat us).take k).length + 1) ((flat us).take k) 0 = (us.take n, (flat (us.take n)).length) := by
  rcases h2 with h2 | ⟨h2, h3⟩
  · subst h2
    rw [List.take_of_length_le (Nat.le_refl _)] at h1 ⊢
    have e : (flat us).take k = flat us := List.take_of_length_le (by omega)
    have h4 := recs_stop us h [] (next1_nil _)
    rw [List.append_nil] at h4
    rw [e, h4]
  · have e : (flat us).take k = flat (us.take n) ++ (recB (us.getD n [])).take (k - (flat (us.take n)).length) := by
      rw [flat_split us n h2, List.take_append, List.take_of_length_le h1]
      congr 1
      rw [flat_snoc us n h2, List.length_append] at h3
      exact List.take_append_of_le_length (by omega)
    rw [flat_snoc us n h2, List.length_append] at h3
    rw [e]
    exact recs_stop (us.take n) (take_mem_body h n) _ (next1_cut _ _ _ (h _ (getD_mem h2)) (by omega))

theorem getD_mid (p r q : List Int) (k : Nat) (h1 : p.length ≤ k) (h2 : k < p.length + r.length) : (p ++ (r ++ q)).getD k 0 = r.getD (k - p.length) 0 := by
  rw [List.getD_eq_getElem?_getD, List.getD_eq_getElem?_getD, List.getElem?_append_right h1, List.getElem?_append_left (by omega)]
/-- A byte that is turned. -/
theorem turn_law (us : List (List Int)) (h : ∀ t ∈ us, Body t) (h127 : ∀ t ∈ us, t.length ≤ 127) (hw : ∀ t ∈ us, ∀ x ∈ t, 0 ≤ x ∧ x ≤ 255) (n k : Nat) (hn : n < us.length) (h1 : (flat (us.take n)).length < k) (h2 : k < (flat (us.take (n + 1))).length)
    (v : Int) (hv : 0 ≤ v ∧ v ≤ 255) (hne : v ≠ (flat us).getD k 0) :
    recsF (((flat us).set k v).length + 1) ((flat us).set k v) 0 = (us.take n, (flat (us.take n)).length) := by
  have hm := getD_mem hn
  rw [flat_snoc us n hn, List.length_append] at h2
  have e : (flat us).set k v = flat (us.take n) ++ ((recB (us.getD n [])).set (k - (flat (us.take n)).length) v ++ flat (us.drop (n + 1))) := by
    rw [flat_split us n hn, List.set_append_right _ _ (by omega), List.set_append_left _ _ (by omega)]
  rw [e]
  refine recs_stop (us.take n) (take_mem_body h n) _ (next1_turned _ _ _ (h _ hm) (h127 _ hm) (hw _ hm) _ (by omega) (by omega) v hv ?_)
  intro hq
  refine hne (hq.trans ?_)
  rw [flat_split us n hn, getD_mid _ _ _ _ (by omega) (by omega)]
end Go.Proofs.Ytkmhifacpkiefaa
