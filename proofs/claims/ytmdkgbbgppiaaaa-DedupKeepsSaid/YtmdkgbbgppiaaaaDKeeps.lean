/- The law DedupKeeps' walk. -/
import Derived.Test.YtmdkgbbgppiaaaaDOld
import Derived.Test.YtmdkgbbgppiaaaaDPlace
import Derived.Deep.CutBlock
namespace Go.Proofs.Ytmdkgbbgppiaaaa
set_option linter.unusedVariables false
set_option linter.unusedSimpArgs false
open Go.RowKit Go.ChangeMaps Go.Proofs.YtmdkgbbgppiaaaaW.PrintWords

/-- What is kept when the numbers below m have been added, with room for k. -/
def kp (who : Int) (k m : Nat) : List ((Int × Int) × Pk) := (List.range' (m - k) (min m k)).map fun j : Nat => ((who, (j : Int)), pkI (j : Int))
def lastK (who : Int) (m : Nat) : Int → Option Int := fun f => if f = who ∧ 0 < m then some ((m : Int) - 1) else none
theorem kp_len (who : Int) (k m : Nat) : (kp who k m).length = min m k := by rw [kp, List.length_map, List.length_range']
theorem rep_map (who : Int) (i : Nat) : ∀ l : List Nat, repR (l.map fun j : Nat => ((who, (j : Int)), pkI (j : Int))) (who, (i : Int)) = if i ∈ l then some (pkI (i : Int)) else none := by
  intro l
  rw [repR]
  induction l with
  | nil => simp
  | cons j l ih =>
    rw [List.map_cons, List.find?_cons]
    by_cases h : j = i
    · subst h
      simp
    · have h2 : ¬ (((who, (j : Int)), pkI (j : Int)) : (Int × Int) × Pk).1 = (who, (i : Int)) := by
        intro e
        have := (Prod.mk.inj e).2
        omega
      rw [decide_eq_false h2]
      have h3 : i ∈ j :: l ↔ i ∈ l := by simp [Ne.symm h]
      simp only [h3]
      exact ih
theorem kp_rep (who : Int) (k m i : Nat) : repR (kp who k m) (who, (i : Int)) = if m - k ≤ i ∧ i < m then some (pkI (i : Int)) else none := by
  rw [kp, rep_map]
  have : i ∈ List.range' (m - k) (min m k) ↔ (m - k ≤ i ∧ i < m) := by
    rw [List.mem_range'_1]
    omega
  simp only [this]
theorem kp_add (who : Int) (k m : Nat) (hk : 1 ≤ k) : addR k (kp who k m) ((who, (m : Int)), pkI (m : Int)) = kp who k (m + 1) := by
  rw [addR, kp_len]
  have hm : kp who k m ++ [((who, (m : Int)), pkI (m : Int))] = (List.range' (m - k) (min m k + 1)).map fun j : Nat => ((who, (j : Int)), pkI (j : Int)) := by
    rw [List.range'_1_concat, List.map_append, kp]
    rw [show m - k + min m k = m by omega]
    rfl
  by_cases h : k < min m k + 1
  · rw [if_pos h, hm, List.range'_succ, List.map_cons, List.drop_succ_cons, List.drop_zero, kp]
    rw [show m - k + 1 = m + 1 - k by omega, show min m k = min (m + 1) k by omega]
  · rw [if_neg h, hm, kp]
    rw [show m - k = m + 1 - k by omega, show min m k + 1 = min (m + 1) k by omega]
theorem lastK_set (who : Int) (m : Nat) : setF (lastK who m) who (m : Int) = lastK who (m + 1) := by
  funext f
  rw [setF, lastK, lastK]
  by_cases h : f = who
  · rw [if_pos h, if_pos ⟨h, by omega⟩]
    congr 1
    omega
  · rw [if_neg h, if_neg (fun e => h e.1), if_neg (fun e => h e.1)]
theorem kp_look (who : Int) (k m : Nat) : lookS (kp who k m) (lastK who m) who (m : Int) = (pk0, 1) := by
  rw [lookS, kp_rep, if_neg (by omega)]
  by_cases h : 0 < m
  · simp only [lastK, h, and_self, if_true]
    rw [if_neg (by omega)]
  · simp only [lastK, h, and_false, if_false]
theorem kp_look2 (who : Int) (k m i : Nat) (h : i < m) : lookS (kp who k m) (lastK who m) who (i : Int) = if m - k ≤ i then (pkI (i : Int), 2) else (pk0, 3) := by
  rw [lookS, kp_rep]
  by_cases h2 : m - k ≤ i
  · rw [if_pos ⟨h2, h⟩, if_pos h2]
  · rw [if_neg (fun e => h2 e.1), if_neg h2]
    have h3 : 0 < m := by omega
    simp only [lastK, h3, and_self, if_true]
    rw [if_pos (by omega)]
theorem kp_zero (who : Int) (k : Nat) : kp who k 0 = [] := by simp [kp]
theorem lastK_zero (who : Int) : lastK who 0 = fun _ => none := by
  funext f
  simp [lastK]

set_option maxRecDepth 100000 in
set_option maxHeartbeats 2000000 in
theorem dedupkeeps_walk (a0 a1 a2 : Int) (w : World) (h0 : -9223372036854775808 ≤ a0 ∧ a0 ≤ 9223372036854775807) (h1 : -9223372036854775808 ≤ a1 ∧ a1 ≤ 9223372036854775807) (h2 : -9223372036854775808 ≤ a2 ∧ a2 ≤ 9223372036854775807) :
    Calls Try.prog 5 #[.int .i64 a0, .int .i64 a1, .int .i64 a2] w fun e w' => e = .returned (.bool true) ∧ Below w.heap.size w w' := by
  have H0 : Aside0 (In64 a0) := ⟨h0⟩
  have H2 : Aside0 (In64 a2) := ⟨h2⟩
  obtain ⟨s, hs⟩ : ∃ s : Nat, max 1 (min a0 8) = (s : Int) := ⟨(max 1 (min a0 8)).toNat, by omega⟩
  have hs1 : 1 ≤ s := by omega
  have hs8 : s ≤ 8 := by omega
  have HS := Aside0.mk hs
  clear h0 h1 h2 hs
  go_enter Try.func5, Try.ntmps5
  go_upto_region 1 with fail
  go_cut [7] (fun v wc => v = .int .i64 (s : Int) ∧ Aside0 (wc = w))
  case first =>
    have hs' := HS.out
    go_wp2
    all_goals
      go_meet
      case rel => exact ⟨by congr 1; omega, ⟨rfl⟩⟩
  case rest =>
    obtain ⟨rfl, HWC⟩ := hcut
    have hwc := HWC.out
    subst hwc
    go_wp2_with fail
    refine (make_c a0 s _ H0.out HS.out).mono ?_
    rintro e w1 ⟨b, rfl, HC, HB⟩
    go_wp2_with fail
    refine (place_new a1 40 _ (by omega) (by omega)).mono ?_
    rintro e w9 ⟨m, rfl, hm, rfl⟩
    have hm40 : m < 40 := by omega
    clear hm
    go_wp2_with fail
    go_loopw [10] (fun u wr => ∃ i : Nat, u = .int .i64 (i : Int) ∧ i ≤ m ∧ Aside0 (Cch wr wc.heap.size b s (kp a2 s i) (lastK a2 i)) ∧ Aside0 (Below wc.heap.size wc wr)) (fun u _ => m - (intOf u).toNat)
    case atStart => exact ⟨0, rfl, by omega, ⟨by rw [kp_zero, lastK_zero]; exact HC.out⟩, HB⟩
    case round =>
      obtain ⟨i, rfl, hi, HCr, HBr⟩ := hrel
      by_cases hlt : i < m
      · go_wp2_with fail
        refine (addNew_c wr wc.heap.size b s _ _ HCr a2 (i : Int) H2.out (in64 _ (by omega) (by omega)) (pkI (i : Int)) ⟨kp_look a2 s i⟩ HBr.out.size (by rw [kp_len]; omega) hs1).mono ?_
        rintro e w2 ⟨rfl, HC2, HB2⟩
        rw [kp_add a2 s i hs1, lastK_set] at HC2
        replace HB2 := Aside0.mk (HBr.out.trans HB2.out)
        go_wp2_with fail
        go_roundw
        case rel => exact ⟨i + 1, by go_num, by omega, HC2, HB2⟩
        case measure => simp [intOf]; omega
      · obtain rfl : i = m := by omega
        go_wp2_with fail
        go_loopw [11] (fun u wq => ∃ j : Nat, u = .int .i64 (j : Int) ∧ j ≤ i ∧ Aside0 (Cch wq wc.heap.size b s (kp a2 s i) (lastK a2 i)) ∧ Aside0 (Below wc.heap.size wc wq)) (fun u _ => i - (intOf u).toNat)
        case atStart => exact ⟨0, rfl, by omega, HCr, HBr⟩
        case round =>
          clear HCr HBr
          obtain ⟨j, rfl, hj, HCr, HBr⟩ := hrel
          by_cases hlt2 : j < i
          · have hsub : wrap64 ((i : Int) - (s : Int)) = (i : Int) - (s : Int) := by unfold wrap64; omega
            have hsub2 : IntKind.i64.wrap ((i : Int) - (s : Int)) = (i : Int) - (s : Int) := by rw [IntKind.wrap_i64]; omega
            have hlk := kp_look2 a2 s i j hlt2
            by_cases hge : i - s ≤ j
            · rw [if_pos hge] at hlk
              have HLK := Aside0.mk hlk
              have d1 : decide ((i : Int) - (s : Int) ≤ (j : Int)) = true := decide_eq_true (by omega)
              have d2 : decide ((j : Int) < (i : Int) - (s : Int)) = false := decide_eq_false (by omega)
              clear hlk hge
              go_wp2_with fail
              refine (look_c _ wc.heap.size b s _ _ HCr a2 (j : Int) H2.out (in64 _ (by omega) (by omega)) (pkI (j : Int)) 2 HLK).mono ?_
              rintro e w3 ⟨rfl, HB3⟩
              have HC3 := Aside0.mk (HCr.out.below HB3.out)
              replace HB3 := Aside0.mk (HBr.out.trans (HB3.out.mono HBr.out.size))
              have HC4 := Aside0.mk (HC3.out.below ((Below.refl w3.heap.size w3).alloc (Nat.le_refl _) (.cells #[.int .i64 0, .int .i64 0, .int .i64 0, .int .i64 (j : Int), .int .i64 0, .string ByteArray.empty, .int .i64 0, .string ByteArray.empty] 28)))
              have HB4 := Aside0.mk (HB3.out.alloc HB3.out.size (.cells #[.int .i64 0, .int .i64 0, .int .i64 0, .int .i64 (j : Int), .int .i64 0, .string ByteArray.empty, .int .i64 0, .string ByteArray.empty] 28))
              unfold pkV pkI
              go_wp2_with fail
              go_roundw
              case rel => exact ⟨j + 1, by go_num, by omega, HC4, HB4⟩
              case measure => simp [intOf]; omega
            · rw [if_neg hge] at hlk
              have HLK := Aside0.mk hlk
              have d1 : decide ((i : Int) - (s : Int) ≤ (j : Int)) = false := decide_eq_false (by omega)
              have d2 : decide ((j : Int) < (i : Int) - (s : Int)) = true := decide_eq_true (by omega)
              clear hlk hge
              go_wp2_with fail
              refine (look_c _ wc.heap.size b s _ _ HCr a2 (j : Int) H2.out (in64 _ (by omega) (by omega)) pk0 3 HLK).mono ?_
              rintro e w3 ⟨rfl, HB3⟩
              have HC3 := Aside0.mk (HCr.out.below HB3.out)
              replace HB3 := Aside0.mk (HBr.out.trans (HB3.out.mono HBr.out.size))
              have HC4 := Aside0.mk (HC3.out.below ((Below.refl w3.heap.size w3).alloc (Nat.le_refl _) (.cells #[.int .i64 0, .int .i64 0, .int .i64 0, .int .i64 0, .int .i64 0, .string ByteArray.empty, .int .i64 0, .string ByteArray.empty] 28)))
              have HB4 := Aside0.mk (HB3.out.alloc HB3.out.size (.cells #[.int .i64 0, .int .i64 0, .int .i64 0, .int .i64 0, .int .i64 0, .string ByteArray.empty, .int .i64 0, .string ByteArray.empty] 28))
              unfold pkV pk0
              go_wp2_with fail
              go_roundw
              case rel => exact ⟨j + 1, by go_num, by omega, HC4, HB4⟩
              case measure => simp [intOf]; omega
          · by_cases hms : i ≤ s
            · go_wp2_with fail
              refine (len_c _ wc.heap.size b s _ _ HCr i ⟨by rw [kp_len]; omega⟩).mono ?_
              rintro e w9 ⟨rfl, rfl⟩
              go_wp2_with fail
              all_goals
                refine (awake_any _).mono ?_
                rintro e w6 ⟨rfl, hB6⟩
                have HB6 := Aside0.mk (HBr.out.trans (hB6.mono HBr.out.size))
                clear hB6
                go_wp2
                go_ret
                exact ⟨rfl, HB6.out⟩
            · go_wp2_with fail
              refine (len_c _ wc.heap.size b s _ _ HCr s ⟨by rw [kp_len]; omega⟩).mono ?_
              rintro e w9 ⟨rfl, rfl⟩
              go_wp2_with fail
              all_goals
                refine (awake_any _).mono ?_
                rintro e w6 ⟨rfl, hB6⟩
                have HB6 := Aside0.mk (HBr.out.trans (hB6.mono HBr.out.size))
                clear hB6
                go_wp2
                go_ret
                exact ⟨rfl, HB6.out⟩
end Go.Proofs.Ytmdkgbbgppiaaaa
