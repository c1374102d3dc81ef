/- runes.Valid. -/
import Derived.Test.YtabcaeckoghmpaaDoorRNext
import Derived.Lib.OthersKept
namespace Go.Proofs.YtabcaeckoghmpaaDoor
set_option linter.unusedVariables false
set_option linter.unusedSimpArgs false
open Go.RowKit Go.Proofs.YtabcaeckoghmpaaDoorW.PrintWords

theorem dec_pos (s : ByteArray) (p : Nat) (h : p < s.size) : 1 ≤ (Utf8.decode s p).2 := by
  rw [Lib.decode_at]
  unfold Lib.decodeN
  repeat' split
  all_goals simp
theorem dec_le (s : ByteArray) (p : Nat) (h : p < s.size) : p + (Utf8.decode s p).2 ≤ s.size ∧ (Utf8.decode s p).2 ≤ 4 ∧ (Utf8.decode s p).1 ≤ 1114111 := by
  rw [Lib.decode_at]
  have h0 := (s.get! p).toNat_lt
  unfold Lib.decodeN
  repeat' split
  all_goals simp only
  all_goals omega

/-- Whether from a place on there are runes alone. -/
def validF (s : ByteArray) : Nat → Nat → Bool
  | 0, _ => true
  | k + 1, p => if p < s.size then (if (Utf8.decode s p).1 = 65533 ∧ (Utf8.decode s p).2 < 2 then false else validF s k (p + (Utf8.decode s p).2)) else true
def validG (s : ByteArray) : Bool := validF s s.size 0

theorem validF_step (s : ByteArray) (k p : Nat) (h : p < s.size) : validF s (k + 1) p = if (Utf8.decode s p).1 = 65533 ∧ (Utf8.decode s p).2 < 2 then false else validF s k (p + (Utf8.decode s p).2) := by rw [validF, if_pos h]
theorem validF_end (s : ByteArray) (k p : Nat) (h : ¬ p < s.size) : validF s k p = true := by
  cases k with
  | zero => rfl
  | succ k => rw [validF, if_neg h]

theorem iter_pos {w : World} {k : Nat} {s : ByteArray} {p : Nat} (h : w.heap[k]? = some (.stringIter s p)) : w.iterPos k = p := by simp [World.iterPos, h]
theorem tabs_iter {w : World} {s : ByteArray} {p : Nat} (h : Tabs w) : Tabs (w.iter s p) := tabs_below h ((Below.refl _ _).alloc (Nat.le_refl _) _)

set_option maxRecDepth 100000 in
set_option maxHeartbeats 1000000 in
theorem valid_any (s : ByteArray) (w : World) (hs : s.size ≤ 4611686018427387904) (hT : Tabs w) (v : Bool) (hv : Aside0 (validG s = v)) :
    Calls Tryd.prog 41 #[.string s] w fun e w' => e = .returned (.bool v) ∧ Below w.heap.size w w' := by
  have HT := Aside0.mk hT
  clear hT
  go_enter Tryd.func41, Tryd.ntmps41
  go_wp2_with fail
  go_loopw [3] (fun _ wr => ∃ (pos k : Nat), Aside0 (wr.heap[w.heap.size]? = some (.stringIter s pos)) ∧ pos ≤ s.size ∧ Aside0 (validF s k pos = v) ∧ Aside0 (s.size ≤ pos + k) ∧ Aside0 (Below w.heap.size w wr)) (fun _ wr => s.size - wr.iterPos w.heap.size)
  case atStart => exact ⟨0, s.size, ⟨World.iter_heap w s 0⟩, by omega, hv, ⟨by omega⟩, ⟨(Below.refl _ _).alloc (Nat.le_refl _) _⟩⟩
  case round =>
    obtain ⟨pos, k, HK, hpos, HV, HF, HB⟩ := hrel
    by_cases hp : pos < s.size
    · obtain ⟨r, n, hd⟩ : ∃ r n, Utf8.decode s pos = (r, n) := ⟨_, _, rfl⟩
      have hnx : ∀ ty, (Instr.next (.pointer (some ⟨w.heap.size, 0, none⟩)) true ty).run Tryd.prog wr = _ := fun ty => Lib.run_next_any_at wr w.heap.size s pos ty HK.out hp
      have hn1 := dec_pos s pos hp
      have hn2 := dec_le s pos hp
      rw [hd] at hn1 hn2
      simp only [hd] at hnx
      simp only at hn1 hn2
      obtain ⟨k, rfl⟩ : ∃ k', k = k' + 1 := ⟨k - 1, by have := HF.out; omega⟩
      have hst := HV.out
      rw [validF_step s k pos hp, hd] at hst
      simp only at hst
      have HK2 := Aside0.mk (Lib.iterAt_heap wr w.heap.size s pos (pos + n) HK.out)
      have HB2 := Aside0.mk (Lib.below_iterAt HB.out (Nat.le_refl _) s (pos + n))
      have hmeas := Aside0.mk (iter_pos HK.out)
      have hlt : w.heap.size < wr.heap.size := (Array.getElem?_eq_some_iff.1 HK.out).1
      have hlt2 : w.heap.size < (wr.iterAt w.heap.size s (pos + n)).heap.size := by rw [Lib.iterAt_size]; exact hlt
      have HST := Aside0.mk hst
      have HD := Aside0.mk hd
      clear hd hst
      by_cases hr : r = 65533
      · subst hr
        by_cases hn : n < 2
        · have hvf : v = false := by rw [← HST.out, if_pos ⟨rfl, hn⟩]
          subst hvf
          have HG : Aside0 (nextG s (pos : Int) = (0, 0, false)) := ⟨by rw [nextG, if_neg (by omega), Int.toNat_natCast, HD.out, if_pos ⟨rfl, hn⟩]⟩
          go_wp2_with fail
          refine (next_at s pos _ (by omega) (tabs_below HT.out HB2.out) 0 0 false HG).mono ?_
          rintro e w1 ⟨rfl, hB1⟩
          have HB3 := Aside0.mk (HB2.out.trans (hB1.mono HB2.out.size))
          clear hB1
          go_wp2
          go_ret
          exact ⟨rfl, HB3.out⟩
        · have HG : Aside0 (nextG s (pos : Int) = (65533, n, true)) := ⟨by rw [nextG, if_neg (by omega), Int.toNat_natCast, HD.out, if_neg (by simp only; omega)]⟩
          go_wp2_with fail
          refine (next_at s pos _ (by omega) (tabs_below HT.out HB2.out) 65533 n true HG).mono ?_
          rintro e w1 ⟨rfl, hB1⟩
          have HB3 := Aside0.mk (HB2.out.trans (hB1.mono HB2.out.size))
          have HK3 := Aside0.mk (show w1.heap[w.heap.size]? = some (.stringIter s (pos + n)) by rw [hB1.block _ hlt2]; exact HK2.out)
          clear hB1
          go_wp2
          go_roundw
          case rel => exact ⟨pos + n, k, HK3, hn2.1, ⟨by rw [← HST.out, if_neg (by omega)]⟩, ⟨by have := HF.out; omega⟩, HB3⟩
          case measure => rw [iter_pos HK3.out, hmeas.out]; omega
      · have hr2 : ((r : Int) != 65533) = true := by rw [bne_iff_ne]; omega
        have HR := Aside0.mk hr
        clear hr
        go_wp2
        go_roundw
        case rel => exact ⟨pos + n, k, HK2, hn2.1, ⟨by rw [← HST.out, if_neg (fun h => HR.out h.1)]⟩, ⟨by have := HF.out; omega⟩, HB2⟩
        case measure => rw [iter_pos HK2.out, hmeas.out]; omega
    · have hnx : ∀ ty, (Instr.next (.pointer (some ⟨w.heap.size, 0, none⟩)) true ty).run Tryd.prog wr = _ := fun ty => Lib.run_next_end_at wr w.heap.size s pos ty HK.out hp
      have hvt : v = true := by rw [← HV.out]; exact validF_end s k pos hp
      subst hvt
      go_wp2
      go_ret
      exact ⟨rfl, HB.out⟩
end Go.Proofs.YtabcaeckoghmpaaDoor
