/- Number, and the reference's. -/
import Derived.Test.YteipadogmdppgaaDoorLRefToks
namespace Go.Proofs.YteipadogmdppgaaDoor
set_option linter.unusedVariables false
set_option linter.unusedSimpArgs false
open Go.RowKit Go.Proofs.YteipadogmdppgaaDoorW.PrintWords

/-- The number that digits are, behind a number. -/
def numL : Nat → List Nat → Option Nat
  | a, [] => some a
  | a, b :: u => if 48 ≤ b ∧ b ≤ 57 then numL (10 * a + (b - 48)) u else none
def numF (s : ByteArray) : Nat × Bool :=
  if s.size < 1 ∨ 10 < s.size ∨ (1 < s.size ∧ bt8 s 0 = 48) then (0, false) else match numL 0 (bs s) with
    | none => (0, false)
    | some v => (v, true)
theorem str_empty (s : ByteArray) (b : Bool) (h : decide (s.size = 0) = b) : (s.toList == []) = b := by
  rw [ByteArray.toList_eq, ← h]
  have e : s.data.toList.length = s.size := Array.length_toList
  cases hl : s.data.toList with
  | nil => rw [hl] at e; simp at e; simp [e.symm]
  | cons x l => rw [hl] at e; simp at e; simp [e.symm]
theorem pow10 (p : Nat) (h : p ≤ 10) : 10 ^ p ≤ 10000000000 := Nat.le_trans (Nat.pow_le_pow_right (by omega) h) (by decide)

set_option maxRecDepth 100000 in
set_option maxHeartbeats 2000000 in
theorem number_run (s : ByteArray) (w : World) (h1 : 1 ≤ s.size) (h2 : s.size ≤ 10) (h3 : ¬ (1 < s.size ∧ bt8 s 0 = 48)) (v : Nat) (ok : Bool) (hv : Aside0 (numF s = (v, ok))) :
    Calls Tryd.prog 14 #[.string s] w fun e w' => e = .returned (.tuple #[.int .i64 (v : Int), .bool ok]) ∧ Aside0 (Below w.heap.size w w') := by
  have e0 := str_empty s false (decide_eq_false (by omega))
  have e1 : decide (10 < s.size) = false := decide_eq_false (by omega)
  have e2 : decide ((10 : Int) < (s.size : Int)) = false := decide_eq_false (by omega)
  have hx0 : 0 < s.size := by omega
  obtain ⟨x, hx⟩ : ∃ x, bt8 s 0 = x := ⟨_, rfl⟩
  have hsi0 : (s[0]'hx0).toNat = x := by rw [bt8_at, hx]
  rw [hx] at h3
  obtain ⟨b1, hb1⟩ : ∃ b, decide (1 < s.size) = b := ⟨_, rfl⟩
  have hb1i : decide ((1 : Int) < (s.size : Int)) = b1 := by rw [← hb1]; exact decide_eq_decide.2 (by omega)
  obtain ⟨b2, hb2⟩ : ∃ b, ((x : Int) == 48) = b := ⟨_, rfl⟩
  have hbb : b1 = true → b2 = false := by
    intro h
    rw [← hb1] at h
    rw [← hb2, beq_eq_false_iff_ne]
    intro e
    exact h3 ⟨of_decide_eq_true h, by omega⟩
  have HO : Aside0 (numF s = match numL 0 (bs s) with | none => (0, false) | some v => (v, true)) := ⟨by rw [numF, if_neg (by rw [hx]; omega)]⟩
  rw [hv.out] at HO
  clear hv hx h3
  go_enter Tryd.func14, Tryd.ntmps14
  have key : ∀ K : Prop, (b1 = false → K) → (b1 = true → b2 = false → K) → K := by
    intro K k1 k2
    cases b1 with
    | false => exact k1 rfl
    | true => exact k2 rfl (hbb rfl)
  refine key _ (fun q1 => ?_) (fun q1 q2 => ?_)
  all_goals (
    clear key hbb
    try subst q2
    subst q1
    go_wp2_with fail
    go_loopw [4] (fun z wr => ∃ (pos a : Nat), z = .int .i64 (a : Int) ∧ pos ≤ s.size ∧ Aside0 (a < 10 ^ pos) ∧ Aside0 (wr.heap[w.heap.size]? = some (.stringIter s pos)) ∧ Aside0 (numL 0 (bs s) = numL a ((bs s).drop pos)) ∧ Aside0 (Below w.heap.size w wr)) (fun _ wr => s.size - wr.iterPos w.heap.size)
    case atStart => exact ⟨0, 0, rfl, by omega, ⟨by decide⟩, ⟨World.iter_heap w s 0⟩, ⟨by rw [List.drop_zero]⟩, ⟨(Below.refl _ _).alloc (Nat.le_refl _) _⟩⟩
    case round =>
      obtain ⟨pos, a, rfl, hpos, HA, HK, HV, HB⟩ := hrel
      by_cases hp : pos < s.size
      · obtain ⟨r, d, hd⟩ : ∃ r d, Utf8.decode s pos = (r, d) := ⟨_, _, rfl⟩
        have hnx : ∀ ty, (Instr.next (.pointer (some ⟨w.heap.size, 0, none⟩)) true ty).run Tryd.prog wr = _ := fun ty => Lib.run_next_any_at wr w.heap.size s pos ty HK.out hp
        simp only [hd] at hnx
        obtain ⟨y, hy⟩ : ∃ y, bt8 s pos = y := ⟨_, rfl⟩
        have hst := HV.out
        rw [drop_cons s pos hp, hy, numL] at hst
        have hdl : Utf8.decode s pos = dL (y :: (bs s).drop (pos + 1)) := by rw [dec_dL, drop_cons s pos hp, hy]
        rw [hd] at hdl
        have HK2 := Aside0.mk (Lib.iterAt_heap wr w.heap.size s pos (pos + d) HK.out)
        have HB2 := Aside0.mk (Lib.below_iterAt HB.out (Nat.le_refl _) s (pos + d))
        have hmeas := Aside0.mk (iter_pos HK.out)
        by_cases hdg : 48 ≤ y ∧ y ≤ 57
        · rw [dL_low y _ (by omega)] at hdl
          cases hdl
          rw [if_pos hdg] at hst
          have ha := HA.out
          have hp10 := pow10 pos (by omega)
          obtain ⟨k, hk⟩ : ∃ k, r - 48 = k := ⟨_, rfl⟩
          obtain ⟨a1, ha1⟩ : ∃ a1, 10 * a = a1 := ⟨_, rfl⟩
          obtain ⟨a2, ha2⟩ : ∃ a2, a1 + k = a2 := ⟨_, rfl⟩
          rw [hk, ha1, ha2] at hst
          have hki : (r : Int) - 48 = (k : Int) := by omega
          have ha1i : 10 * (a : Int) = (a1 : Int) := by omega
          have ha2i : (a1 : Int) + (k : Int) = (a2 : Int) := by omega
          have HA2 : Aside0 (a2 < 10 ^ (pos + 1)) := ⟨by rw [Nat.pow_succ]; omega⟩
          have hab : a1 ≤ 100000000000 := by omega
          have hab2 : a2 ≤ 200000000000 := by omega
          have hkb : k ≤ 9 := by omega
          have HST := Aside0.mk hst
          have HD : Aside0 (digitF (r : Int) = true) := ⟨by rw [digitF, inF, decide_eq_true (by omega), decide_eq_true (by omega)]; rfl⟩
          clear hst hd ha hp10 hk ha1 ha2
          go_wp2_with fail
          refine (digit_any (r : Int) _ true HD).mono ?_
          rintro e w2 ⟨rfl, rfl⟩
          go_wp2
          go_roundw
          case rel => exact ⟨pos + 1, a2, by go_num, by omega, HA2, HK2, HST, HB2⟩
          case measure => rw [iter_pos HK2.out, hmeas.out]; omega
        · rw [if_neg hdg] at hst
          have hrd : digitF (r : Int) = false := by
            by_cases hy1 : y < 128
            · rw [dL_low y _ hy1] at hdl
              cases hdl
              rw [digitF, inF, ← Bool.decide_and, decide_eq_false (by omega)]
            · have hge := decN_ge (y :: (bs s).drop (pos + 1)).length ((y :: (bs s).drop (pos + 1)).getD 0 0) ((y :: (bs s).drop (pos + 1)).getD 1 0) ((y :: (bs s).drop (pos + 1)).getD 2 0) ((y :: (bs s).drop (pos + 1)).getD 3 0) hy1
              have he : Lib.decodeN (y :: (bs s).drop (pos + 1)).length ((y :: (bs s).drop (pos + 1)).getD 0 0) ((y :: (bs s).drop (pos + 1)).getD 1 0) ((y :: (bs s).drop (pos + 1)).getD 2 0) ((y :: (bs s).drop (pos + 1)).getD 3 0) = (r, d) := hdl.symm
              rw [he] at hge
              rw [digitF, inF, ← Bool.decide_and, decide_eq_false (by simp only at hge; omega)]
          have HD := Aside0.mk hrd
          have ho := HO.out
          rw [hst] at ho
          simp only [Prod.mk.injEq] at ho
          obtain ⟨rfl, rfl⟩ := ho
          clear hst hd hdl hrd
          go_wp2_with fail
          refine (digit_any (r : Int) _ false HD).mono ?_
          rintro e w2 ⟨rfl, rfl⟩
          go_wp2
          go_ret2
          exact ⟨rfl, HB2⟩
      · have hnx : ∀ ty, (Instr.next (.pointer (some ⟨w.heap.size, 0, none⟩)) true ty).run Tryd.prog wr = _ := fun ty => Lib.run_next_end_at wr w.heap.size s pos ty HK.out hp
        have hst := HV.out
        rw [List.drop_eq_nil_of_le (by rw [bs_length]; omega), numL] at hst
        have ho := HO.out
        rw [hst] at ho
        simp only [Prod.mk.injEq] at ho
        obtain ⟨rfl, rfl⟩ := ho
        clear hst
        go_wp2
        go_ret2
        exact ⟨rfl, HB⟩)

theorem number_out (s : ByteArray) (w : World) (hs : s.size ≤ 4611686018427387904) (h : s.size < 1 ∨ 10 < s.size ∨ (1 < s.size ∧ bt8 s 0 = 48)) :
    Calls Tryd.prog 14 #[.string s] w fun e w' => e = .returned (.tuple #[.int .i64 0, .bool false]) ∧ Aside0 (Below w.heap.size w w') := by
  by_cases h1 : s.size = 0
  · have e0 := str_empty s true (decide_eq_true h1)
    go_enter Tryd.func14, Tryd.ntmps14
    go_wp2
    go_ret2
    exact ⟨rfl, ⟨Below.refl _ _⟩⟩
  · have e0 := str_empty s false (decide_eq_false h1)
    by_cases h2 : 10 < s.size
    · have e1 : decide (10 < s.size) = true := decide_eq_true h2
      have e2 : decide ((10 : Int) < (s.size : Int)) = true := decide_eq_true (by omega)
      go_enter Tryd.func14, Tryd.ntmps14
      go_wp2
      go_ret2
      exact ⟨rfl, ⟨Below.refl _ _⟩⟩
    · have h3 : 1 < s.size ∧ bt8 s 0 = 48 := by omega
      have e1 : decide (10 < s.size) = false := decide_eq_false h2
      have e2 : decide ((10 : Int) < (s.size : Int)) = false := decide_eq_false (by omega)
      have e3 : decide (1 < s.size) = true := decide_eq_true h3.1
      have e4 : decide ((1 : Int) < (s.size : Int)) = true := decide_eq_true (by omega)
      have hx0 : 0 < s.size := by omega
      have hsi0 : (s[0]'hx0).toNat = 48 := by rw [bt8_at, h3.2]
      clear h3 h
      go_enter Tryd.func14, Tryd.ntmps14
      go_wp2
      go_ret2
      exact ⟨rfl, ⟨Below.refl _ _⟩⟩
theorem number_any (s : ByteArray) (w : World) (hs : s.size ≤ 4611686018427387904) (v : Nat) (ok : Bool) (hv : Aside0 (numF s = (v, ok))) :
    Calls Tryd.prog 14 #[.string s] w fun e w' => e = .returned (.tuple #[.int .i64 (v : Int), .bool ok]) ∧ Aside0 (Below w.heap.size w w') := by
  by_cases h : s.size < 1 ∨ 10 < s.size ∨ (1 < s.size ∧ bt8 s 0 = 48)
  · have e := hv.out
    rw [numF, if_pos h] at e
    cases e
    exact number_out s w hs h
  · exact number_run s w (by omega) (by omega) (by omega) v ok hv

set_option maxRecDepth 100000 in
set_option maxHeartbeats 2000000 in
theorem rnumber_run (s : ByteArray) (w : World) (h1 : 1 ≤ s.size) (h2 : s.size ≤ 10) (h3 : ¬ (1 < s.size ∧ bt8 s 0 = 48)) (v : Nat) (ok : Bool) (hv : Aside0 (numF s = (v, ok))) :
    Calls Tryd.prog 15 #[.string s] w fun e w' => e = .returned (.tuple #[.int .i64 (v : Int), .bool ok]) ∧ w = w' := by
  have e0 : decide (s.size < 1) = false := decide_eq_false (by omega)
  have e00 : decide ((s.size : Int) < 1) = false := decide_eq_false (by omega)
  have e1 : decide (10 < s.size) = false := decide_eq_false (by omega)
  have e2 : decide ((10 : Int) < (s.size : Int)) = false := decide_eq_false (by omega)
  have hx0 : 0 < s.size := by omega
  obtain ⟨x, hx⟩ : ∃ x, bt8 s 0 = x := ⟨_, rfl⟩
  have hsi0 : (s[0]'hx0).toNat = x := by rw [bt8_at, hx]
  rw [hx] at h3
  obtain ⟨b1, hb1⟩ : ∃ b, decide (1 < s.size) = b := ⟨_, rfl⟩
  have hb1i : decide ((1 : Int) < (s.size : Int)) = b1 := by rw [← hb1]; exact decide_eq_decide.2 (by omega)
  obtain ⟨b2, hb2⟩ : ∃ b, ((x : Int) == 48) = b := ⟨_, rfl⟩
  have hbb : b1 = true → b2 = false := by
    intro h
    rw [← hb1] at h
    rw [← hb2, beq_eq_false_iff_ne]
    intro e
    exact h3 ⟨of_decide_eq_true h, by omega⟩
  have HO : Aside0 (numF s = match numL 0 (bs s) with | none => (0, false) | some v => (v, true)) := ⟨by rw [numF, if_neg (by rw [hx]; omega)]⟩
  rw [hv.out] at HO
  clear hv hx h3
  go_enter Tryd.func15, Tryd.ntmps15
  have key : ∀ K : Prop, (b1 = false → K) → (b1 = true → b2 = false → K) → K := by
    intro K k1 k2
    cases b1 with
    | false => exact k1 rfl
    | true => exact k2 rfl (hbb rfl)
  refine key _ (fun q1 => ?_) (fun q1 q2 => ?_)
  all_goals (
    clear key hbb
    try subst q2
    subst q1
    go_wp2_with fail
    go_loop [4, 5] (fun z u => ∃ (pos a : Nat), z = .int .i64 (a : Int) ∧ u = .int .i64 (pos : Int) ∧ pos ≤ s.size ∧ Aside0 (a < 10 ^ pos) ∧ Aside0 (numL 0 (bs s) = numL a ((bs s).drop pos))) (fun _ u => s.size - (intOf u).toNat)
    case atStart => exact ⟨0, 0, rfl, rfl, by omega, ⟨by decide⟩, ⟨by rw [List.drop_zero]⟩⟩
    case round =>
      obtain ⟨pos, a, rfl, rfl, hpos, HA, HV⟩ := hrel
      by_cases hp : pos < s.size
      · obtain ⟨y, hy⟩ : ∃ y, bt8 s pos = y := ⟨_, rfl⟩
        have hsi : (s[pos]'hp).toNat = y := by rw [bt8_at, hy]
        have hyl : y < 256 := by rw [← hy]; exact bt8_lt s pos
        have hst := HV.out
        rw [drop_cons s pos hp, hy, numL] at hst
        by_cases hdg : 48 ≤ y ∧ y ≤ 57
        · rw [if_pos hdg] at hst
          have ha := HA.out
          have hp10 := pow10 pos (by omega)
          obtain ⟨k, hk⟩ : ∃ k, y - 48 = k := ⟨_, rfl⟩
          obtain ⟨a1, ha1⟩ : ∃ a1, 10 * a = a1 := ⟨_, rfl⟩
          obtain ⟨a2, ha2⟩ : ∃ a2, a1 + k = a2 := ⟨_, rfl⟩
          rw [hk, ha1, ha2] at hst
          have hki : (y : Int) - 48 = (k : Int) := by omega
          have ha1i : 10 * (a : Int) = (a1 : Int) := by omega
          have ha2i : (a1 : Int) + (k : Int) = (a2 : Int) := by omega
          have HA2 : Aside0 (a2 < 10 ^ (pos + 1)) := ⟨by rw [Nat.pow_succ]; omega⟩
          have hab : a1 ≤ 100000000000 := by omega
          have hab2 : a2 ≤ 200000000000 := by omega
          have hkb : k ≤ 9 := by omega
          have HST := Aside0.mk hst
          have hc1 : decide ((y : Int) < 48) = false := decide_eq_false (by omega)
          have hc2 : decide ((57 : Int) < (y : Int)) = false := decide_eq_false (by omega)
          have hc3 : decide (y < 48) = false := decide_eq_false (by omega)
          have hc4 : decide (57 < y) = false := decide_eq_false (by omega)
          clear hst ha hp10 hk ha1 ha2 hy
          go_wp2
          go_round
          case rel => exact ⟨pos + 1, a2, by go_num, by go_num, by omega, HA2, HST⟩
          case measure => simp [intOf]; omega
        · rw [if_neg hdg] at hst
          have ho := HO.out
          rw [hst] at ho
          simp only [Prod.mk.injEq] at ho
          obtain ⟨rfl, rfl⟩ := ho
          clear hst hy
          by_cases hc : y < 48
          · have hc1 : decide ((y : Int) < 48) = true := decide_eq_true (by omega)
            have hc3 : decide (y < 48) = true := decide_eq_true (by omega)
            go_wp2
            go_ret2
            exact ⟨rfl, rfl⟩
          · have hc1 : decide ((y : Int) < 48) = false := decide_eq_false (by omega)
            have hc2 : decide ((57 : Int) < (y : Int)) = true := decide_eq_true (by omega)
            have hc3 : decide (y < 48) = false := decide_eq_false (by omega)
            have hc4 : decide (57 < y) = true := decide_eq_true (by omega)
            go_wp2
            go_ret2
            exact ⟨rfl, rfl⟩
      · have hst := HV.out
        rw [List.drop_eq_nil_of_le (by rw [bs_length]; omega), numL] at hst
        have ho := HO.out
        rw [hst] at ho
        simp only [Prod.mk.injEq] at ho
        obtain ⟨rfl, rfl⟩ := ho
        clear hst
        go_wp2
        go_ret2
        exact ⟨rfl, rfl⟩)
theorem rnumber_out (s : ByteArray) (w : World) (hs : s.size ≤ 4611686018427387904) (h : s.size < 1 ∨ 10 < s.size ∨ (1 < s.size ∧ bt8 s 0 = 48)) :
    Calls Tryd.prog 15 #[.string s] w fun e w' => e = .returned (.tuple #[.int .i64 0, .bool false]) ∧ w = w' := by
  by_cases h1 : s.size = 0
  · have e0 : decide (s.size < 1) = true := decide_eq_true (by omega)
    have e00 : decide ((s.size : Int) < 1) = true := decide_eq_true (by omega)
    go_enter Tryd.func15, Tryd.ntmps15
    go_wp2
    go_ret2
    exact ⟨rfl, rfl⟩
  · have e0 : decide (s.size < 1) = false := decide_eq_false (by omega)
    have e00 : decide ((s.size : Int) < 1) = false := decide_eq_false (by omega)
    by_cases h2 : 10 < s.size
    · have e1 : decide (10 < s.size) = true := decide_eq_true h2
      have e2 : decide ((10 : Int) < (s.size : Int)) = true := decide_eq_true (by omega)
      go_enter Tryd.func15, Tryd.ntmps15
      go_wp2
      go_ret2
      exact ⟨rfl, rfl⟩
    · have h3 : 1 < s.size ∧ bt8 s 0 = 48 := by omega
      have e1 : decide (10 < s.size) = false := decide_eq_false h2
      have e2 : decide ((10 : Int) < (s.size : Int)) = false := decide_eq_false (by omega)
      have e3 : decide (1 < s.size) = true := decide_eq_true h3.1
      have e4 : decide ((1 : Int) < (s.size : Int)) = true := decide_eq_true (by omega)
      have hx0 : 0 < s.size := by omega
      have hsi0 : (s[0]'hx0).toNat = 48 := by rw [bt8_at, h3.2]
      clear h3 h
      go_enter Tryd.func15, Tryd.ntmps15
      go_wp2
      go_ret2
      exact ⟨rfl, rfl⟩
theorem rnumber_any (s : ByteArray) (w : World) (hs : s.size ≤ 4611686018427387904) (v : Nat) (ok : Bool) (hv : Aside0 (numF s = (v, ok))) :
    Calls Tryd.prog 15 #[.string s] w fun e w' => e = .returned (.tuple #[.int .i64 (v : Int), .bool ok]) ∧ w = w' := by
  by_cases h : s.size < 1 ∨ 10 < s.size ∨ (1 < s.size ∧ bt8 s 0 = 48)
  · have e := hv.out
    rw [numF, if_pos h] at e
    cases e
    exact rnumber_out s w hs h
  · exact rnumber_run s w (by omega) (by omega) (by omega) v ok hv
end Go.Proofs.YteipadogmdppgaaDoor
