/- lex.among, lex.part, lex.run. -/
import Derived.Test.YteipadogmdppgaaDoorLexStep
import Derived.Lib.OthersKept
namespace Go.Proofs.YteipadogmdppgaaDoor
set_option linter.unusedVariables false
set_option linter.unusedSimpArgs false
open Go.RowKit Go.Proofs.YteipadogmdppgaaDoorW.PrintWords

theorem part_any (r : Nat) (w : World) : Calls Tryd.prog 23 #[.int .i32 (r : Int)] w fun e w' => e = .returned (.bool (partF r)) ∧ w = w' := by
  cases h1 : letterF (r : Int) with
  | true =>
    have hp : partF r = true := by rw [partF, h1]; rfl
    rw [hp]
    go_enter Tryd.func23, Tryd.ntmps23
    go_wp2_with fail
    refine (letter_any (r : Int) _ true ⟨h1⟩).mono ?_
    rintro e w1 ⟨rfl, rfl⟩
    go_wp2
    go_ret
    exact ⟨rfl, rfl⟩
  | false =>
    obtain ⟨b, hb⟩ : ∃ b, digitF (r : Int) = b := ⟨_, rfl⟩
    have hp : partF r = b := by rw [partF, h1, hb]; rfl
    rw [hp]
    go_enter Tryd.func23, Tryd.ntmps23
    go_wp2_with fail
    refine (letter_any (r : Int) _ false ⟨h1⟩).mono ?_
    rintro e w1 ⟨rfl, rfl⟩
    go_wp2_with fail
    refine (digit_any (r : Int) _ b ⟨hb⟩).mono ?_
    rintro e w1 ⟨rfl, rfl⟩
    go_wp2
    go_ret
    exact ⟨rfl, rfl⟩
theorem nl_any (r : Nat) (w : World) : Calls Tryd.prog 21 #[.int .i32 (r : Int)] w fun e w' => e = .returned (.bool (nlF r)) ∧ w = w' := by
  by_cases h : r = 10
  · subst h
    go_enter Tryd.func21, Tryd.ntmps21
    go_wp2
    go_ret
    exact ⟨rfl, rfl⟩
  · have hp : nlF r = true := by simp [nlF, h]
    have h1 : ((r : Int) != 10) = true := by simp; omega
    have h2 : ((r : Int) == 10) = false := by simp; omega
    rw [hp]
    go_enter Tryd.func21, Tryd.ntmps21
    go_wp2
    go_ret
    exact ⟨rfl, rfl⟩

theorem part_at (r : Nat) (w : World) (v : Bool) (hv : Aside0 (partF r = v)) : Calls Tryd.prog 23 #[.int .i32 (r : Int)] w fun e w' => e = .returned (.bool v) ∧ w = w' := by rw [← hv.out]; exact part_any r w
theorem nl_at (r : Nat) (w : World) (v : Bool) (hv : Aside0 (nlF r = v)) : Calls Tryd.prog 21 #[.int .i32 (r : Int)] w fun e w' => e = .returned (.bool v) ∧ w = w' := by rw [← hv.out]; exact nl_any r w

set_option maxRecDepth 100000 in
set_option maxHeartbeats 1000000 in
theorem run_part (s : ByteArray) (w : World) (hs : s.size ≤ 4611686018427387904) (n : Nat) (hn : Aside0 (runA partF (bs s) = n)) :
    Calls Tryd.prog 20 #[.string s, .func (.func 23) #[] #[]] w fun e w' => e = .returned (.int .i64 (n : Int)) ∧ Below w.heap.size w w' := by
  go_enter Tryd.func20, Tryd.ntmps20
  go_wp2_with fail
  go_loopw [5, 6] (fun _ _ wr => ∃ (pos : Nat), Aside0 (wr.heap[w.heap.size]? = some (.stringIter s pos)) ∧ pos ≤ s.size ∧ Aside0 (pos + runA partF ((bs s).drop pos) = n) ∧ Aside0 (Below w.heap.size w wr)) (fun _ _ wr => s.size - wr.iterPos w.heap.size)
  case atStart => exact ⟨0, ⟨World.iter_heap w s 0⟩, by omega, ⟨by rw [List.drop_zero, Nat.zero_add]; exact hn.out⟩, ⟨(Below.refl _ _).alloc (Nat.le_refl _) _⟩⟩
  case round =>
    obtain ⟨pos, HK, hpos, HV, HB⟩ := hrel
    by_cases hp : pos < s.size
    · obtain ⟨r, d, hd⟩ : ∃ r d, Utf8.decode s pos = (r, d) := ⟨_, _, rfl⟩
      have hnx : ∀ ty, (Instr.next (.pointer (some ⟨w.heap.size, 0, none⟩)) true ty).run Tryd.prog wr = _ := fun ty => Lib.run_next_any_at wr w.heap.size s pos ty HK.out hp
      have hn1 := dec_pos s pos hp
      have hn2 := dec_le s pos hp
      rw [hd] at hn1 hn2
      simp only [hd] at hnx
      simp only at hn1 hn2
      have hst := HV.out
      rw [runA_step _ _ (by intro e; have := congrArg List.length e; rw [List.length_drop, bs_length] at this; simp at this; omega), ← dec_dL, hd] at hst
      simp only [List.drop_drop] at hst
      have HK2 := Aside0.mk (Lib.iterAt_heap wr w.heap.size s pos (pos + d) HK.out)
      have HB2 := Aside0.mk (Lib.below_iterAt HB.out (Nat.le_refl _) s (pos + d))
      have hmeas := Aside0.mk (iter_pos HK.out)
      have hlt : w.heap.size < wr.heap.size := (Array.getElem?_eq_some_iff.1 HK.out).1
      have hlt2 : w.heap.size < (wr.iterAt w.heap.size s (pos + d)).heap.size := by rw [Lib.iterAt_size]; exact hlt
      have HST := Aside0.mk hst
      clear hd hst
      cases hg : partF r
      · have hpn : n = pos := by rw [← HST.out, hg]; simp
        subst hpn
        have HG := Aside0.mk hg
        clear hg
        go_wp2_with fail
        refine (part_at r _ _ HG).mono ?_
        rintro e w1 ⟨rfl, rfl⟩
        go_wp2
        go_ret
        exact ⟨rfl, HB2.out⟩
      · have HG := Aside0.mk hg
        have HST2 : Aside0 (pos + d + runA partF ((bs s).drop (pos + d)) = n) := ⟨by rw [← HST.out, hg, if_pos rfl]; omega⟩
        clear hg
        go_wp2_with fail
        refine (part_at r _ _ HG).mono ?_
        rintro e w1 ⟨rfl, rfl⟩
        go_wp2
        go_roundw
        case rel => exact ⟨pos + d, HK2, hn2.1, HST2, HB2⟩
        case measure => rw [iter_pos HK2.out, hmeas.out]; omega
    · have hnx : ∀ ty, (Instr.next (.pointer (some ⟨w.heap.size, 0, none⟩)) true ty).run Tryd.prog wr = _ := fun ty => Lib.run_next_end_at wr w.heap.size s pos ty HK.out hp
      have hpn : n = s.size := by
        have := HV.out
        rw [List.drop_eq_nil_of_le (by rw [bs_length]; omega), runA_nil] at this
        omega
      subst hpn
      go_wp2
      go_ret
      exact ⟨rfl, HB.out⟩
set_option maxRecDepth 100000 in
set_option maxHeartbeats 1000000 in
theorem run_digits (s : ByteArray) (w : World) (hs : s.size ≤ 4611686018427387904) (n : Nat) (hn : Aside0 (runA dgF (bs s) = n)) :
    Calls Tryd.prog 20 #[.string s, .func (.func 24) #[] #[]] w fun e w' => e = .returned (.int .i64 (n : Int)) ∧ Below w.heap.size w w' := by
  go_enter Tryd.func20, Tryd.ntmps20
  go_wp2_with fail
  go_loopw [5, 6] (fun _ _ wr => ∃ (pos : Nat), Aside0 (wr.heap[w.heap.size]? = some (.stringIter s pos)) ∧ pos ≤ s.size ∧ Aside0 (pos + runA dgF ((bs s).drop pos) = n) ∧ Aside0 (Below w.heap.size w wr)) (fun _ _ wr => s.size - wr.iterPos w.heap.size)
  case atStart => exact ⟨0, ⟨World.iter_heap w s 0⟩, by omega, ⟨by rw [List.drop_zero, Nat.zero_add]; exact hn.out⟩, ⟨(Below.refl _ _).alloc (Nat.le_refl _) _⟩⟩
  case round =>
    obtain ⟨pos, HK, hpos, HV, HB⟩ := hrel
    by_cases hp : pos < s.size
    · obtain ⟨r, d, hd⟩ : ∃ r d, Utf8.decode s pos = (r, d) := ⟨_, _, rfl⟩
      have hnx : ∀ ty, (Instr.next (.pointer (some ⟨w.heap.size, 0, none⟩)) true ty).run Tryd.prog wr = _ := fun ty => Lib.run_next_any_at wr w.heap.size s pos ty HK.out hp
      have hn1 := dec_pos s pos hp
      have hn2 := dec_le s pos hp
      rw [hd] at hn1 hn2
      simp only [hd] at hnx
      simp only at hn1 hn2
      have hst := HV.out
      rw [runA_step _ _ (by intro e; have := congrArg List.length e; rw [List.length_drop, bs_length] at this; simp at this; omega), ← dec_dL, hd] at hst
      simp only [List.drop_drop] at hst
      have HK2 := Aside0.mk (Lib.iterAt_heap wr w.heap.size s pos (pos + d) HK.out)
      have HB2 := Aside0.mk (Lib.below_iterAt HB.out (Nat.le_refl _) s (pos + d))
      have hmeas := Aside0.mk (iter_pos HK.out)
      have hlt : w.heap.size < wr.heap.size := (Array.getElem?_eq_some_iff.1 HK.out).1
      have hlt2 : w.heap.size < (wr.iterAt w.heap.size s (pos + d)).heap.size := by rw [Lib.iterAt_size]; exact hlt
      have HST := Aside0.mk hst
      clear hd hst
      cases hg : dgF r
      · have hpn : n = pos := by rw [← HST.out, hg]; simp
        subst hpn
        have HG := Aside0.mk hg
        clear hg
        go_wp2_with fail
        refine (digit_any (r : Int) _ _ HG).mono ?_
        rintro e w1 ⟨rfl, rfl⟩
        go_wp2
        go_ret
        exact ⟨rfl, HB2.out⟩
      · have HG := Aside0.mk hg
        have HST2 : Aside0 (pos + d + runA dgF ((bs s).drop (pos + d)) = n) := ⟨by rw [← HST.out, hg, if_pos rfl]; omega⟩
        clear hg
        go_wp2_with fail
        refine (digit_any (r : Int) _ _ HG).mono ?_
        rintro e w1 ⟨rfl, rfl⟩
        go_wp2
        go_roundw
        case rel => exact ⟨pos + d, HK2, hn2.1, HST2, HB2⟩
        case measure => rw [iter_pos HK2.out, hmeas.out]; omega
    · have hnx : ∀ ty, (Instr.next (.pointer (some ⟨w.heap.size, 0, none⟩)) true ty).run Tryd.prog wr = _ := fun ty => Lib.run_next_end_at wr w.heap.size s pos ty HK.out hp
      have hpn : n = s.size := by
        have := HV.out
        rw [List.drop_eq_nil_of_le (by rw [bs_length]; omega), runA_nil] at this
        omega
      subst hpn
      go_wp2
      go_ret
      exact ⟨rfl, HB.out⟩
set_option maxRecDepth 100000 in
set_option maxHeartbeats 1000000 in
theorem run_line (s : ByteArray) (w : World) (hs : s.size ≤ 4611686018427387904) (n : Nat) (hn : Aside0 (runA nlF (bs s) = n)) :
    Calls Tryd.prog 20 #[.string s, .func (.func 21) #[] #[]] w fun e w' => e = .returned (.int .i64 (n : Int)) ∧ Below w.heap.size w w' := by
  go_enter Tryd.func20, Tryd.ntmps20
  go_wp2_with fail
  go_loopw [5, 6] (fun _ _ wr => ∃ (pos : Nat), Aside0 (wr.heap[w.heap.size]? = some (.stringIter s pos)) ∧ pos ≤ s.size ∧ Aside0 (pos + runA nlF ((bs s).drop pos) = n) ∧ Aside0 (Below w.heap.size w wr)) (fun _ _ wr => s.size - wr.iterPos w.heap.size)
  case atStart => exact ⟨0, ⟨World.iter_heap w s 0⟩, by omega, ⟨by rw [List.drop_zero, Nat.zero_add]; exact hn.out⟩, ⟨(Below.refl _ _).alloc (Nat.le_refl _) _⟩⟩
  case round =>
    obtain ⟨pos, HK, hpos, HV, HB⟩ := hrel
    by_cases hp : pos < s.size
    · obtain ⟨r, d, hd⟩ : ∃ r d, Utf8.decode s pos = (r, d) := ⟨_, _, rfl⟩
      have hnx : ∀ ty, (Instr.next (.pointer (some ⟨w.heap.size, 0, none⟩)) true ty).run Tryd.prog wr = _ := fun ty => Lib.run_next_any_at wr w.heap.size s pos ty HK.out hp
      have hn1 := dec_pos s pos hp
      have hn2 := dec_le s pos hp
      rw [hd] at hn1 hn2
      simp only [hd] at hnx
      simp only at hn1 hn2
      have hst := HV.out
      rw [runA_step _ _ (by intro e; have := congrArg List.length e; rw [List.length_drop, bs_length] at this; simp at this; omega), ← dec_dL, hd] at hst
      simp only [List.drop_drop] at hst
      have HK2 := Aside0.mk (Lib.iterAt_heap wr w.heap.size s pos (pos + d) HK.out)
      have HB2 := Aside0.mk (Lib.below_iterAt HB.out (Nat.le_refl _) s (pos + d))
      have hmeas := Aside0.mk (iter_pos HK.out)
      have hlt : w.heap.size < wr.heap.size := (Array.getElem?_eq_some_iff.1 HK.out).1
      have hlt2 : w.heap.size < (wr.iterAt w.heap.size s (pos + d)).heap.size := by rw [Lib.iterAt_size]; exact hlt
      have HST := Aside0.mk hst
      clear hd hst
      cases hg : nlF r
      · have hpn : n = pos := by rw [← HST.out, hg]; simp
        subst hpn
        have HG := Aside0.mk hg
        clear hg
        go_wp2_with fail
        refine (nl_at r _ _ HG).mono ?_
        rintro e w1 ⟨rfl, rfl⟩
        go_wp2
        go_ret
        exact ⟨rfl, HB2.out⟩
      · have HG := Aside0.mk hg
        have HST2 : Aside0 (pos + d + runA nlF ((bs s).drop (pos + d)) = n) := ⟨by rw [← HST.out, hg, if_pos rfl]; omega⟩
        clear hg
        go_wp2_with fail
        refine (nl_at r _ _ HG).mono ?_
        rintro e w1 ⟨rfl, rfl⟩
        go_wp2
        go_roundw
        case rel => exact ⟨pos + d, HK2, hn2.1, HST2, HB2⟩
        case measure => rw [iter_pos HK2.out, hmeas.out]; omega
    · have hnx : ∀ ty, (Instr.next (.pointer (some ⟨w.heap.size, 0, none⟩)) true ty).run Tryd.prog wr = _ := fun ty => Lib.run_next_end_at wr w.heap.size s pos ty HK.out hp
      have hpn : n = s.size := by
        have := HV.out
        rw [List.drop_eq_nil_of_le (by rw [bs_length]; omega), runA_nil] at this
        omega
      subst hpn
      go_wp2
      go_ret
      exact ⟨rfl, HB.out⟩
end Go.Proofs.YteipadogmdppgaaDoor
