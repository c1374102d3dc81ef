/- Plain: records read one by one. -/
import Derived.Test.YtkmhifacpkiefaaWPut
namespace Go.Proofs.Ytkmhifacpkiefaa
set_option linter.unusedVariables false
set_option linter.unusedSimpArgs false
open Go.RowKit Go.Proofs.YtkmhifacpkiefaaW.PrintWords

/-- The record at a place: its body, and where it ends. -/
def next1 (bs : List Int) (a : Nat) : Option (List Int × Nat) :=
  if (getF bs a).2.2 ≠ 0 ∨ (getF bs a).1 < 1 ∨ 16384 < (getF bs a).1 ∨ (bs.length : Int) - (getF bs a).2.1 - 4 < (getF bs a).1 then none
  else if low4 (crcF (crcF 0 ((bs.drop a).take ((getF bs a).2.1.toNat - a))) ((bs.drop ((getF bs a).2.1.toNat + 4)).take (getF bs a).1.toNat)) = (bs.drop (getF bs a).2.1.toNat).take 4
  then some ((bs.drop ((getF bs a).2.1.toNat + 4)).take (getF bs a).1.toNat, (getF bs a).2.1.toNat + 4 + (getF bs a).1.toNat) else none

/-- The records from a place on (so many at most), and where they end. -/
def recsF : Nat → List Int → Nat → List (List Int) × Nat
  | 0, _, a => ([], a)
  | k + 1, bs, a => match next1 bs a with
    | none => ([], a)
    | some (t, e) => (t :: (recsF k bs e).1, (recsF k bs e).2)

theorem getL_ok (a : Int) : ∀ (l : List Int) (i : Nat) (V n b : Int), getL a l i V = (n, b, 0) → a + i < b ∧ b ≤ a + i + l.length := by
  intro l
  induction l with
  | nil => intro i V n b h; simp [getL] at h
  | cons x r ih =>
    intro i V n b h
    rw [getL] at h
    split at h
    · simp at h
    · split at h
      · have := ih _ _ _ _ h
        simp only [List.length_cons]
        omega
      · split at h
        · simp at h
        · simp only [Prod.mk.injEq] at h
          simp only [List.length_cons]
          omega
theorem getF_ok (bs : List Int) (a n b : Int) (h : getF bs a = (n, b, 0)) : 0 ≤ a ∧ a < b ∧ b ≤ bs.length := by
  unfold getF at h
  split at h
  · simp at h
  · rename_i h0
    have := getL_ok _ _ _ _ _ _ h
    simp only [List.length_drop] at this
    omega
theorem getF_at_end (bs : List Int) : getF bs bs.length = (0, 0, 2) := by
  unfold getF
  rw [if_neg (by omega), Int.toNat_natCast, List.drop_of_length_le (Nat.le_refl _), getL]

theorem next1_none (bs : List Int) (a : Nat) (h : (getF bs a).2.2 ≠ 0 ∨ (getF bs a).1 < 1 ∨ 16384 < (getF bs a).1 ∨ (bs.length : Int) - (getF bs a).2.1 - 4 < (getF bs a).1) : next1 bs a = none := by
  rw [next1, if_pos h]
theorem next1_end (bs : List Int) (a : Nat) (h : bs.length ≤ a) : next1 bs a = none := by
  refine next1_none bs a (.inl ?_)
  rcases Nat.lt_or_ge bs.length a with h1 | h1
  · unfold getF
    rw [if_pos (.inr (by omega))]
    decide
  · obtain rfl : a = bs.length := by omega
    rw [getF_at_end]
    decide
theorem next1_gt (bs : List Int) (a : Nat) (t : List Int) (e : Nat) (h : next1 bs a = some (t, e)) : a + 6 ≤ e ∧ e ≤ bs.length ∧ 1 ≤ t.length := by
  obtain ⟨n, b, e0, hg⟩ : ∃ n b e0, getF bs a = (n, b, e0) := ⟨_, _, _, rfl⟩
  simp only [next1, hg] at h
  split at h
  · cases h
  · rename_i h1
    split at h
    · simp only [Option.some.injEq, Prod.mk.injEq] at h
      obtain ⟨rfl, rfl⟩ := h
      obtain rfl : e0 = 0 := by omega
      have h2 := getF_ok bs a n b hg
      simp only [List.length_take, List.length_drop]
      omega
    · cases h
theorem recsF_stop (k : Nat) (bs : List Int) (a : Nat) (h : next1 bs a = none) : recsF (k + 1) bs a = ([], a) := by rw [recsF, h]
theorem recsF_go (k : Nat) (bs : List Int) (a : Nat) (t : List Int) (e : Nat) (h : next1 bs a = some (t, e)) : recsF (k + 1) bs a = (t :: (recsF k bs e).1, (recsF k bs e).2) := by rw [recsF, h]

theorem strOfNums_inj (xs ys : List Int) (hx : ∀ x ∈ xs, 0 ≤ x ∧ x ≤ 255) (hy : ∀ x ∈ ys, 0 ≤ x ∧ x ≤ 255) (h : strOfNums xs = strOfNums ys) : xs = ys := by
  have h1 : xs.map (fun n => UInt8.ofNat n.toNat) = ys.map (fun n => UInt8.ofNat n.toNat) := by
    have := congrArg (fun b : ByteArray => b.data.toList) h
    simpa [strOfNums] using this
  clear h
  induction xs generalizing ys with
  | nil => cases ys with
    | nil => rfl
    | cons y ys => simp at h1
  | cons x xs ih => cases ys with
    | nil => simp at h1
    | cons y ys =>
      simp only [List.map_cons, List.cons.injEq] at h1
      have a := hx x (List.mem_cons_self ..)
      have b := hy y (List.mem_cons_self ..)
      have c : x = y := by
        have := congrArg UInt8.toNat h1.1
        simp only [UInt8.toNat_ofNat'] at this
        omega
      rw [c, ih ys (fun z hz => hx z (List.mem_cons_of_mem _ hz)) (fun z hz => hy z (List.mem_cons_of_mem _ hz)) h1.2]
theorem toList_inj {a b : ByteArray} (h : a.toList = b.toList) : a = b := by
  rw [ByteArray.toList_eq, ByteArray.toList_eq] at h
  exact ByteArray.ext (Array.toList_inj.mp h)
end Go.Proofs.Ytkmhifacpkiefaa
