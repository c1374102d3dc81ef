/- The laws' example. -/
import Derived.Test.YteipadogmdppgaaDoorLToks
import Derived.Test.YteipadogmdppgaaDoorWEqStruct
namespace Go.Proofs.YteipadogmdppgaaDoor
set_option linter.unusedVariables false
set_option linter.unusedSimpArgs false
open Go.RowKit Go.Proofs.YteipadogmdppgaaDoorW.PrintWords

/-- A slice of pieces, as it is read. -/
def TR (s : ByteArray) (w : World) (A : Option Addr) (L : List (Nat × Nat × Nat)) : Prop :=
  L.length ≤ 9223372036854775807 ∧ (0 < L.length → ∃ g, A = some ⟨g, 0, none⟩ ∧ ∀ j t, L[j]? = some t →
    w.cell? ⟨g, j * 3, none⟩ = some (.int .i64 (t.1 : Int)) ∧ w.cell? ⟨g, j * 3 + 1, none⟩ = some (.string (s.extract t.2.1 (t.2.1 + t.2.2))) ∧ w.cell? ⟨g, j * 3 + 2, none⟩ = some (.int .i64 (t.2.1 : Int)))
theorem TR.below {s : ByteArray} {w w1 : World} {A : Option Addr} {L : List (Nat × Nat × Nat)} (h : TR s w A L) (hb : Below w.heap.size w w1) : TR s w1 A L :=
  ⟨h.1, fun hn => by
    obtain ⟨g, e, hc⟩ := h.2 hn
    exact ⟨g, e, fun j t ht => ⟨pw_cell_below hb (hc j t ht).1, pw_cell_below hb (hc j t ht).2.1, pw_cell_below hb (hc j t ht).2.2⟩⟩⟩
theorem tvals_at (s : ByteArray) : ∀ (l : List (Nat × Nat × Nat)) (j : Nat) (t : Nat × Nat × Nat), l[j]? = some t →
    (tvals s l)[j * 3]? = some (.int .i64 (t.1 : Int)) ∧ (tvals s l)[j * 3 + 1]? = some (.string (s.extract t.2.1 (t.2.1 + t.2.2))) ∧ (tvals s l)[j * 3 + 2]? = some (.int .i64 (t.2.1 : Int)) := by
  intro l
  induction l with
  | nil => intro j t h; simp at h
  | cons a l ih =>
    intro j t h
    have e : tvals s (a :: l) = .int .i64 (a.1 : Int) :: .string (s.extract a.2.1 (a.2.1 + a.2.2)) :: .int .i64 (a.2.1 : Int) :: tvals s l := rfl
    rw [e]
    cases j with
    | zero =>
      have : a = t := by simpa using h
      subst this
      exact ⟨rfl, rfl, rfl⟩
    | succ j =>
      have h1 := ih j t (by simpa using h)
      rw [Nat.succ_mul]
      exact h1
theorem toks_read {s : ByteArray} {base : Nat} {w : World} {v : Value} {L : List (Nat × Nat × Nat)} (h : Toks s base w v L) : ∃ A c, v = .slice A L.length c ∧ TR s w A L := by
  obtain ⟨_, h2⟩ := h
  rcases h2 with ⟨rfl, h0⟩ | ⟨g, cap, cur, rfl, _, hh, h1, hm, hc, ht⟩
  · exact ⟨none, 0, by rw [h0], by omega, fun hn => absurd hn (by omega)⟩
  · refine ⟨_, cap, rfl, by simp only [maxLen] at hm; omega, fun _ => ⟨g, rfl, fun j t hj => ?_⟩⟩
    obtain ⟨a1, a2, a3⟩ := tvals_at s L j t hj
    rw [← ht] at a1 a2 a3
    have hget : ∀ (i : Nat) (u : Value), (cur.toList.take (L.length * 3))[i]? = some u → cur[i]? = some u := by
      intro i u hu
      rw [List.getElem?_take] at hu
      split at hu
      · rw [← Array.getElem?_toList]; exact hu
      · cases hu
    refine ⟨?_, ?_, ?_⟩
    · rw [blk_cell hh]; exact hget _ _ a1
    · rw [blk_cell hh]; exact hget _ _ a2
    · rw [blk_cell hh]; exact hget _ _ a3

theorem tokens_big (s : ByteArray) (w : World) (hs : 16384 < s.size) :
    Calls Tryd.prog 11 #[.string s] w fun e w' => e = .returned (.tuple #[.slice none 0 0, .int .i64 0, .int .i64 4]) ∧ w = w' := by
  have hb1 : decide (16384 < s.size) = true := decide_eq_true hs
  have hb2 : decide ((16384 : Int) < (s.size : Int)) = true := decide_eq_true (by omega)
  go_enter Tryd.func11, Tryd.ntmps11
  go_wp2
  go_ret3
  exact ⟨rfl, rfl⟩
/-- No text that is too big, and no error. -/
theorem tokens_ok (s : ByteArray) (w : World) (hs : s.size ≤ 16384) (hT : Tabs w) (L : List (Nat × Nat × Nat)) (hR : Aside0 (toksA 0 (bs s) = (L, none))) :
    Calls Tryd.prog 11 #[.string s] w fun e w' => ∃ A c, e = .returned (.tuple #[.slice A L.length c, .int .i64 0, .int .i64 0]) ∧ Aside0 (TR s w' A L) ∧ Aside0 (Below w.heap.size w w') :=
  (tokens_run s w hs hT L none hR).mono fun e w' ⟨v, h1, h2, h3⟩ => by
    obtain ⟨A, c, rfl, hr⟩ := toks_read h2.out
    exact ⟨A, c, h1, ⟨hr⟩, h3⟩
theorem tokens_err (s : ByteArray) (w : World) (hs : s.size ≤ 16384) (hT : Tabs w) (L : List (Nat × Nat × Nat)) (a er : Nat) (hR : Aside0 (toksA 0 (bs s) = (L, some (a, er)))) :
    Calls Tryd.prog 11 #[.string s] w fun e w' => e = .returned (.tuple #[.slice none 0 0, .int .i64 (a : Int), .int .i64 (er : Int)]) ∧ Aside0 (Below w.heap.size w w') :=
  tokens_run s w hs hT L (some (a, er)) hR

def exS : ByteArray := ⟨#[97, 61, 49, 59]⟩
theorem ex_toks : toksA 0 (bs exS) = ([(1, 0, 1), (3, 1, 1), (2, 2, 1), (3, 3, 1)], none) := by decide +kernel
theorem ex_cut : exS.extract 0 (0 + 1) = ⟨#[97]⟩ := by decide +kernel

set_option maxRecDepth 100000 in
set_option maxHeartbeats 1000000 in
theorem awake_any (w : World) (hT : Tabs w) :
    Calls Tryd.prog 10 #[] w fun e w' => e = .returned (.bool true) ∧ Below w.heap.size w w' := by
  have HT := Aside0.mk hT
  clear hT
  go_enter Tryd.func10, Tryd.ntmps10
  go_wp2_with fail
  refine (tokens_ok exS _ (by decide) HT.out _ ⟨ex_toks⟩).mono ?_
  rintro e w1 ⟨A, c, rfl, hR, hB⟩
  obtain ⟨g, rfl, hc⟩ := hR.out.2 (by decide)
  obtain ⟨a0, a1, a2⟩ := hc 0 _ rfl
  obtain ⟨_, _, d2⟩ := hc 3 _ rfl
  simp only [ex_cut] at a1
  clear hc hR
  go_wp2_with fail
  go_ret
  exact ⟨rfl, hB.out⟩
end Go.Proofs.YteipadogmdppgaaDoor
