/- runes.Count, Letter, Digit, Key. -/
import Derived.Test.YtabcaeckoghmpaaDoorRValid
namespace Go.Proofs.YtabcaeckoghmpaaDoor
set_option linter.unusedVariables false
set_option linter.unusedSimpArgs false
open Go.RowKit Go.Proofs.YtabcaeckoghmpaaDoorW.PrintWords

/-- The runes from a place on; none: they are not runes alone. -/
def runesF (s : ByteArray) : Nat → Nat → Option (List Nat)
  | 0, _ => some []
  | k + 1, p => if p < s.size then (if (Utf8.decode s p).1 = 65533 ∧ (Utf8.decode s p).2 < 2 then none else (runesF s k (p + (Utf8.decode s p).2)).map ((Utf8.decode s p).1 :: ·)) else some []
def runesG (s : ByteArray) : Option (List Nat) := runesF s s.size 0

theorem runesF_step (s : ByteArray) (k p : Nat) (h : p < s.size) : runesF s (k + 1) p = if (Utf8.decode s p).1 = 65533 ∧ (Utf8.decode s p).2 < 2 then none else (runesF s k (p + (Utf8.decode s p).2)).map ((Utf8.decode s p).1 :: ·) := by rw [runesF, if_pos h]
theorem runesF_end (s : ByteArray) (k p : Nat) (h : ¬ p < s.size) : runesF s k p = some [] := by
  cases k with
  | zero => rfl
  | succ k => rw [runesF, if_neg h]
theorem validF_runes (s : ByteArray) : ∀ k p, validF s k p = (runesF s k p).isSome := by
  intro k
  induction k with
  | zero => intro p; rfl
  | succ k ih =>
    intro p
    rw [validF, runesF]
    split
    · split
      · rfl
      · rw [ih, Option.isSome_map]
    · rfl
theorem validG_runes (s : ByteArray) : validG s = (runesG s).isSome := validF_runes s _ _
theorem runesF_le (s : ByteArray) : ∀ k p l, runesF s k p = some l → l.length ≤ k := by
  intro k
  induction k with
  | zero => intro p l h; simp [runesF] at h; subst h; simp
  | succ k ih =>
    intro p l h
    rw [runesF] at h
    split at h
    · split at h
      · cases h
      · obtain ⟨l', h1, rfl⟩ := Option.map_eq_some_iff.1 h
        have := ih _ _ h1
        simp only [List.length_cons]
        omega
    · cases h; simp

set_option maxRecDepth 100000 in
set_option maxHeartbeats 1000000 in
theorem count_yes (s : ByteArray) (w : World) (hs : s.size ≤ 4611686018427387904) (hT : Tabs w) (l : List Nat) (hv : Aside0 (runesG s = some l)) (c : Nat) (hc : Aside0 (l.length = c)) :
    Calls Tryd.prog 33 #[.string s] w fun e w' => e = .returned (.int .i64 (c : Int)) ∧ Below w.heap.size w w' := by
  have HT := Aside0.mk hT
  have hcs : c ≤ s.size := by rw [← hc.out]; exact runesF_le _ _ _ _ hv.out
  clear hT
  go_enter Tryd.func33, Tryd.ntmps33
  go_wp2_with fail
  refine (valid_any s _ hs HT.out true ⟨by rw [validG_runes, hv.out]; rfl⟩).mono ?_
  rintro e w0 ⟨rfl, hB0⟩
  have HB0 := Aside0.mk hB0
  clear hB0
  go_wp2_with fail
  go_loopw [3] (fun u wr => ∃ (pos k m : Nat) (l' : List Nat), u = .int .i64 (m : Int) ∧ Aside0 (wr.heap[w0.heap.size]? = some (.stringIter s pos)) ∧ pos ≤ s.size ∧ Aside0 (runesF s k pos = some l') ∧ Aside0 (m + l'.length = c) ∧ m ≤ c ∧ Aside0 (s.size ≤ pos + k) ∧ Aside0 (Below w0.heap.size w0 wr)) (fun _ wr => s.size - wr.iterPos w0.heap.size)
  case atStart => exact ⟨0, s.size, 0, l, rfl, ⟨World.iter_heap w0 s 0⟩, by omega, hv, ⟨by rw [Nat.zero_add]; exact hc.out⟩, by omega, ⟨by omega⟩, ⟨(Below.refl _ _).alloc (Nat.le_refl _) _⟩⟩
  case round =>
    obtain ⟨pos, k, m, l', rfl, HK, hpos, HV, HC, hm, HF, HB⟩ := hrel
    by_cases hp : pos < s.size
    · obtain ⟨r, n, hd⟩ : ∃ r n, Utf8.decode s pos = (r, n) := ⟨_, _, rfl⟩
      have hnx : ∀ ty, (Instr.next (.pointer (some ⟨w0.heap.size, 0, none⟩)) true ty).run Tryd.prog wr = _ := fun ty => Lib.run_next_any_at wr w0.heap.size s pos ty HK.out hp
      have hn1 := dec_pos s pos hp
      have hn2 := dec_le s pos hp
      rw [hd] at hn1 hn2
      simp only [hd] at hnx
      simp only at hn1 hn2
      obtain ⟨k, rfl⟩ : ∃ k', k = k' + 1 := ⟨k - 1, by have := HF.out; omega⟩
      have hst := HV.out
      rw [runesF_step s k pos hp, hd] at hst
      simp only at hst
      split at hst
      · cases hst
      · obtain ⟨l2, hl2, rfl⟩ := Option.map_eq_some_iff.1 hst
        have HL2 := Aside0.mk hl2
        have HC2 := Aside0.mk (show m + 1 + l2.length = c by have := HC.out; simp only [List.length_cons] at this; omega)
        have hmc : m + 1 ≤ c := by have := HC2.out; omega
        have HK2 := Aside0.mk (Lib.iterAt_heap wr w0.heap.size s pos (pos + n) HK.out)
        have HB2 := Aside0.mk (Lib.below_iterAt HB.out (Nat.le_refl _) s (pos + n))
        have hmeas := Aside0.mk (iter_pos HK.out)
        clear hd hst hl2
        go_wp2
        go_roundw
        case rel => exact ⟨pos + n, k, m + 1, l2, by go_num, HK2, hn2.1, HL2, HC2, by omega, ⟨by have := HF.out; omega⟩, HB2⟩
        case measure => rw [iter_pos HK2.out, hmeas.out]; omega
    · have hnx : ∀ ty, (Instr.next (.pointer (some ⟨w0.heap.size, 0, none⟩)) true ty).run Tryd.prog wr = _ := fun ty => Lib.run_next_end_at wr w0.heap.size s pos ty HK.out hp
      have hl' : l' = [] := by
        have h := HV.out
        rw [runesF_end s k pos hp] at h
        exact (Option.some.inj h).symm
      have hmm : m = c := by have h := HC.out; rw [hl'] at h; simpa using h
      subst hmm
      go_wp2
      go_ret
      exact ⟨rfl, HB0.out.trans (HB.out.mono HB0.out.size)⟩

theorem count_no (s : ByteArray) (w : World) (hs : s.size ≤ 4611686018427387904) (hT : Tabs w) (hv : Aside0 (runesG s = none)) :
    Calls Tryd.prog 33 #[.string s] w fun e w' => e = .returned (.int .i64 0) ∧ Below w.heap.size w w' := by
  have HT := Aside0.mk hT
  clear hT
  go_enter Tryd.func33, Tryd.ntmps33
  go_wp2_with fail
  refine (valid_any s _ hs HT.out false ⟨by rw [validG_runes, hv.out]; rfl⟩).mono ?_
  rintro e w0 ⟨rfl, hB0⟩
  have HB0 := Aside0.mk hB0
  clear hB0
  go_wp2
  go_ret
  exact ⟨rfl, HB0.out⟩

def countG (s : ByteArray) : Nat := ((runesG s).getD []).length
theorem count_any (s : ByteArray) (w : World) (hs : s.size ≤ 4611686018427387904) (hT : Tabs w) (c : Nat) (hc : Aside0 (countG s = c)) :
    Calls Tryd.prog 33 #[.string s] w fun e w' => e = .returned (.int .i64 (c : Int)) ∧ Below w.heap.size w w' := by
  cases h : runesG s with
  | none =>
    have e : c = 0 := by rw [← hc.out, countG, h]; rfl
    subst e
    exact count_no s w hs hT ⟨h⟩
  | some l => exact count_yes s w hs hT l ⟨h⟩ c ⟨by rw [← hc.out, countG, h]; rfl⟩
end Go.Proofs.YtabcaeckoghmpaaDoor
