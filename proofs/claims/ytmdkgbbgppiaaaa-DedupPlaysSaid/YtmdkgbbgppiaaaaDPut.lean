/- What Add does to the two maps. -/
import Derived.Test.YtmdkgbbgppiaaaaDLook
namespace Go.Proofs.Ytmdkgbbgppiaaaa
set_option linter.unusedVariables false
set_option linter.unusedSimpArgs false
open Go.RowKit Go.ChangeMaps Go.Proofs.YtmdkgbbgppiaaaaW.PrintWords

section
variable {κ ν : Type} [DecidableEq κ]
theorem getL_not {L : List (κ × ν × Nat)} {k : κ} (h : getL L k = none) : ∀ e ∈ L, e.1 ≠ k := by
  intro e he hk
  rw [getL, Option.map_eq_none_iff, List.find?_eq_none] at h
  exact h e he (by simpa using hk)
theorem getL_some {L : List (κ × ν × Nat)} {k : κ} {v : ν} (h : getL L k = some v) : ∃ (j s : Nat), L[j]? = some (k, v, s) := by
  rw [getL, Option.map_eq_some_iff] at h
  obtain ⟨⟨k', v', s⟩, he, rfl⟩ := h
  obtain ⟨j, hj⟩ := List.getElem?_of_mem (List.mem_of_find?_eq_some he)
  have hk := List.find?_some he
  simp only [decide_eq_true_eq] at hk
  subst hk
  exact ⟨j, s, hj⟩
theorem getL_snoc (L : List (κ × ν × Nat)) (k : κ) (v : ν) (s : Nat) (h : getL L k = none) (k' : κ) : getL (L ++ [(k, v, s)]) k' = if k' = k then some v else getL L k' := by
  by_cases hk : k' = k
  · subst hk
    rw [if_pos rfl]
    rw [getL, Option.map_eq_none_iff] at h
    rw [getL, List.find?_append, h]
    simp
  · rw [if_neg hk, getL, getL, List.find?_append]
    have : [(k, v, s)].find? (fun e => decide (e.1 = k')) = none := by simp [Ne.symm hk]
    rw [this, Option.or_none]
theorem getL_set {L : List (κ × ν × Nat)} {j : Nat} {k : κ} {v v' : ν} {s : Nat} (hk : L.Pairwise (fun p q => p.1 ≠ q.1)) (hj : L[j]? = some (k, v, s)) (k' : κ) : getL (L.set j (k, v', s)) k' = if k' = k then some v' else getL L k' := by
  have hjl := (List.getElem?_eq_some_iff.1 hj).1
  have hk2 := pair_set (f := fun e : κ × ν × Nat => e.1) hk hj (y := (k, v', s)) rfl
  by_cases he : k' = k
  · subst he
    rw [if_pos rfl]
    exact getL_at hk2 (j := j) (s := s) (by rw [List.getElem?_set_self hjl])
  · rw [if_neg he]
    cases hg : getL L k' with
    | none =>
      apply getL_none
      intro e hm
      rcases List.mem_or_eq_of_mem_set hm with hm | hm
      · exact getL_not hg e hm
      · rw [hm]; exact fun h => he h.symm
    | some x =>
      obtain ⟨j', s', hj'⟩ := getL_some hg
      have hne : j ≠ j' := by
        intro e
        subst e
        rw [hj] at hj'
        exact he (congrArg (fun x => x.1) (Option.some.inj hj')).symm
      exact getL_at hk2 (j := j') (s := s') (by rw [List.getElem?_set_ne hne]; exact hj')
end
theorem below_set {B m : Nat} {a w : World} (h : Below B a w) (hm : B ≤ m) (o : Obj) : Below B a (setBlock w m o) :=
  h.trans ⟨rfl, rfl, rfl, by simp [setBlock], fun k hk => by
    simp only [setBlock]
    rw [Array.getElem?_setIfInBounds_ne (by omega)]⟩
theorem set_other {w : World} {m x : Nat} (o : Obj) (h : x ≠ m) : (setBlock w m o).heap[x]? = w.heap[x]? := by
  simp only [setBlock]
  rw [Array.getElem?_setIfInBounds_ne (fun e => h e.symm)]
/-- c.replies[k] = p, of a key that is not there. -/
theorem put_rep (W : World) (B m1 : Nat) (L1 : List ((Int × Int) × Pk × Nat)) (c1 : Nat) (h : MapRel kvA pkV okA W m1 L1 c1) (hB : B ≤ m1) (f i : Int) (hf : In64 f) (hi : In64 i) (hn : getL L1 (f, i) = none) (p : Pk) :
    ∃ w7 w8, (Instr.mapEntry 47 (.map (some m1)) (kvA (f, i))).run Try.prog W = .ok (.tuple #[pkV pk0, .int .i64 (c1 : Int)]) w7 ∧
      (Instr.entryStore 47 (.map (some m1)) (.int .i64 (c1 : Int)) (pkV p)).run Try.prog w7 = .ok () w8 ∧
      MapRel kvA pkV okA w8 m1 (L1 ++ [((f, i), p, c1)]) (c1 + 1) ∧ (∀ x, x ≠ m1 → w7.heap[x]? = W.heap[x]?) ∧ (∀ x, x ≠ m1 → w8.heap[x]? = W.heap[x]?) ∧ Below B W w7 ∧ Below B W w8 := by
  obtain ⟨w7, h1, h2, h3⟩ := h.entry_new keyA Try.underlying47 pk0 zeroPk (f, i) ⟨hf, hi⟩ (getL_not hn)
  obtain ⟨w8, h4, h5, h6⟩ := h3.entry_store (P := Try.prog) (t := 47) (j := L1.length) (k := (f, i)) (v := pk0) (s := c1) (by simp) p
  have hset : (L1 ++ [((f, i), pk0, c1)]).set L1.length ((f, i), p, c1) = L1 ++ [((f, i), p, c1)] := by simp
  rw [hset] at h6 h5
  have b7 : Below B W w7 := by rw [h2]; exact below_set (Below.refl _ _) hB _
  have o7 : ∀ x, x ≠ m1 → w7.heap[x]? = W.heap[x]? := fun x hx => by rw [h2]; exact set_other _ hx
  refine ⟨w7, w8, h1, h4, h6, o7, fun x hx => ?_, b7, ?_⟩
  · rw [h5, set_other _ hx]; exact o7 x hx
  · rw [h5]; exact below_set b7 hB _
/-- c.last[f] = i. -/
theorem put_last (W : World) (B m2 : Nat) (L2 : List (Int × Int × Nat)) (c2 : Nat) (h : MapRel kvI kvI In64 W m2 L2 c2) (hB : B ≤ m2) (f i : Int) (hf : In64 f) :
    ∃ w9 w10 st z L2' c2', (Instr.mapEntry 48 (.map (some m2)) (kvI f)).run Try.prog W = .ok (.tuple #[kvI z, .int .i64 st]) w9 ∧
      (Instr.entryStore 48 (.map (some m2)) (.int .i64 st) (kvI i)).run Try.prog w9 = .ok () w10 ∧
      MapRel kvI kvI In64 w10 m2 L2' c2' ∧ (∀ f', getL L2' f' = if f' = f then some i else getL L2 f') ∧ (∀ x, x ≠ m2 → w9.heap[x]? = W.heap[x]?) ∧ (∀ x, x ≠ m2 → w10.heap[x]? = W.heap[x]?) ∧ Below B W w9 ∧ Below B W w10 := by
  cases hg : getL L2 f with
  | none =>
    obtain ⟨w7, h1, h2, h3⟩ := h.entry_new keyI Try.underlying48 (0 : Int) zeroInt f hf (getL_not hg)
    obtain ⟨w8, h4, h5, h6⟩ := h3.entry_store (P := Try.prog) (t := 48) (j := L2.length) (k := f) (v := 0) (s := c2) (by simp) i
    have hset : (L2 ++ [(f, (0 : Int), c2)]).set L2.length (f, i, c2) = L2 ++ [(f, i, c2)] := by simp
    rw [hset] at h6 h5
    have b7 : Below B W w7 := by rw [h2]; exact below_set (Below.refl _ _) hB _
    have o7 : ∀ x, x ≠ m2 → w7.heap[x]? = W.heap[x]? := fun x hx => by rw [h2]; exact set_other _ hx
    refine ⟨w7, w8, _, _, _, _, h1, h4, h6, getL_snoc L2 f i c2 hg, o7, fun x hx => ?_, b7, ?_⟩
    · rw [h5, set_other _ hx]; exact o7 x hx
    · rw [h5]; exact below_set b7 hB _
  | some n =>
    obtain ⟨j, s, hj⟩ := getL_some hg
    obtain ⟨w7, h1, h2, h3⟩ := h.entry_old keyI Try.underlying48 f hf hj
    obtain ⟨w8, h4, h5, h6⟩ := h3.entry_store (P := Try.prog) (t := 48) hj i
    have b7 : Below B W w7 := by rw [h2]; exact below_set (Below.refl _ _) hB _
    have o7 : ∀ x, x ≠ m2 → w7.heap[x]? = W.heap[x]? := fun x hx => by rw [h2]; exact set_other _ hx
    refine ⟨w7, w8, _, _, _, _, h1, h4, h6, getL_set h.keys hj, o7, fun x hx => ?_, b7, ?_⟩
    · rw [h5, set_other _ hx]; exact o7 x hx
    · rw [h5]; exact below_set b7 hB _
end Go.Proofs.Ytmdkgbbgppiaaaa
