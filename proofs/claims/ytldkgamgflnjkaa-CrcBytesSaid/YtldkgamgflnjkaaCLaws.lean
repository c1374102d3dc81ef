/- The laws CrcMore, CrcParts, CrcBytes: their walks. -/
import Derived.Test.YtldkgamgflnjkaaCAwake
import Derived.Test.YtldkgamgflnjkaaPlace
namespace Go.Proofs.Ytldkgamgflnjkaa
set_option linter.unusedVariables false
set_option linter.unusedSimpArgs false
open Go.RowKit Go.Proofs.YtldkgamgflnjkaaW.PrintWords

theorem crcmore_walk (a0 : Int) (A1 : Option Addr) (c1 : Nat) (xs : List Int) (w : World) (h0 : 0 ≤ a0 ∧ a0 ≤ 4294967295) (hr : ReadsInt w .u8 A1 xs.length xs) (hc : xs.length ≤ c1) (hl : xs.length * 1 ≤ 140737488351232) (hw : ∀ x ∈ xs, 0 ≤ x ∧ x ≤ 255) :
    Calls Try.prog 3 #[.int .u32 a0, .slice A1 xs.length c1] w fun e w' => e = .returned (.bool true) ∧ Below w.heap.size w w' := by
  have HR := Aside0.mk hr
  have HW := Aside0.mk hw
  have H0 := Aside0.mk h0
  clear hr hw h0
  go_enter Try.func3, Try.ntmps3
  go_wp2_with fail
  refine (bytes_new A1 _ c1 xs _ rfl HR.out (by omega)).mono ?_
  rintro e w1 ⟨v, rfl, ho, hB1⟩
  obtain ⟨A, c, rfl, hrd⟩ := own_reads ho.out
  have HRD := Aside0.mk hrd
  have HR1 := Aside0.mk (HR.out.below hB1.out)
  clear hrd
  go_wp2_with fail
  refine (cmore_new A _ c a0 xs _ rfl HRD.out H0.out.1 (by have := H0.out.2; omega) HW.out).mono ?_
  rintro e w2 ⟨r1, rfl, hr1, rfl⟩
  go_wp2_with fail
  refine (rmore_new A1 _ c1 a0 xs _ rfl HR1.out H0.out.1 (by have := H0.out.2; omega) HW.out).mono ?_
  rintro e w2 ⟨r2, rfl, hr2, rfl⟩
  have he1 : (r1 == r2) = true := by rw [beq_iff_eq, hr1.out, hr2.out]
  go_wp2_with fail
  refine (cof_new A _ c xs _ rfl HRD.out HW.out).mono ?_
  rintro e w2 ⟨r3, rfl, hr3, rfl⟩
  go_wp2_with fail
  refine (rmore_new A1 _ c1 0 xs _ rfl HR1.out (by decide) (by decide) HW.out).mono ?_
  rintro e w2 ⟨r4, rfl, hr4, rfl⟩
  have he2 : (r3 == r4) = true := by rw [beq_iff_eq, hr3.out, hr4.out]; rfl
  have hs1 := str_reads (c := c) HRD.out
  have hs2 := str_reads (c := c1) HR1.out
  go_wp2_with fail
  refine (awake_any _).mono ?_
  rintro e w3 ⟨rfl, hB3⟩
  have HB3 := Aside0.mk hB3
  clear hB3
  go_wp2
  go_ret
  exact ⟨rfl, hB1.out.trans (HB3.out.mono hB1.out.size)⟩

theorem crcparts_walk (A0 : Option Addr) (c0 : Nat) (xs : List Int) (a1 : Int) (w : World) (hr : ReadsInt w .u8 A0 xs.length xs) (hc : xs.length ≤ c0) (hl : xs.length * 1 ≤ 140737488351232) (hw : ∀ x ∈ xs, 0 ≤ x ∧ x ≤ 255) (h1 : -9223372036854775808 ≤ a1 ∧ a1 ≤ 9223372036854775807) :
    Calls Try.prog 4 #[.slice A0 xs.length c0, .int .i64 a1] w fun e w' => e = .returned (.bool true) ∧ Below w.heap.size w w' := by
  have HR := Aside0.mk hr
  have HW := Aside0.mk hw
  clear hr hw h1
  obtain ⟨i0, hi, _, hsz, _⟩ := info_parts info5
  have HI := Aside0.mk hi
  have HS := Aside0.mk hsz
  clear hi hsz
  go_enter Try.func4, Try.ntmps4
  go_wp2_with fail
  refine (place_any a1 (xs.length + 1) _ (by omega) (by omega)).mono ?_
  rintro e w1 ⟨k, rfl, hk, rfl⟩
  obtain ⟨hcut, hrt⟩ := take_int (P := Try.prog) (k := .u8) 23 5 Try.underlying23 HI.out HS.out A0 c0 xs k (by omega) hc
  obtain ⟨A2, hcut2, hrd⟩ := drop_int (P := Try.prog) (k := .u8) 23 5 Try.underlying23 HI.out HS.out A0 c0 xs k (by omega) hc
  have HT := Aside0.mk (hrt _ HR.out)
  have HD := Aside0.mk (hrd _ HR.out)
  have hcut' := fun W => hcut W (k : Int) rfl
  have hcut2' := fun W => hcut2 W (k : Int) rfl
  clear hcut hcut2 hrt hrd
  go_wp2_with fail
  have hpr := crcF_append (xs.take k) (xs.drop k) (fun x hx => HW.out x (List.mem_of_mem_take hx)) 0
  rw [List.take_append_drop] at hpr
  have HPR := Aside0.mk hpr
  obtain ⟨r1, hr1⟩ : ∃ r, crcF 0 (xs.take k) = r := ⟨_, rfl⟩
  obtain ⟨r2, hr2⟩ : ∃ r, crcF 0 xs = r := ⟨_, rfl⟩
  have HR1 := Aside0.mk hr1; have HR2 := Aside0.mk hr2
  clear hpr hr1 hr2
  refine wp_region_calm_lit (by kernel_rfl) (by kernel_rfl) (fun hne => ?_)
  repeat
    (refine wpQuiet_step (fun K hK => ?_)
     go_simp
     first
     | (refine hK _ ?_; clear hK K)
     | (apply Exists.intro
        refine ⟨fun x => ?_, hK _ ?_⟩
        first
        | (go_at_call 11; exact Later.same ((cof_any A0 k c0 (xs.take k) _ (by simp; omega) (HT.out.below x.below) (fun x hx => HW.out x (List.mem_of_mem_take hx))).mono fun _ _ ⟨h1, h2⟩ => ⟨by rw [h1, HR1.out], h2⟩))
        | (go_at_call 9; exact Later.same ((cmore_any A2 (xs.length - k) (c0 - k) r1 (xs.drop k) _ (by simp) (HD.out.below x.below) (by rw [← HR1.out]; exact crcF_lt _ _) (fun x hx => HW.out x (List.mem_of_mem_drop hx))).mono fun _ _ ⟨h1, h2⟩ => ⟨by rw [h1, ← HR1.out, ← HPR.out, HR2.out], h2⟩))
        | (go_at_call 11; exact Later.same ((cof_any A0 _ c0 xs _ rfl (HR.out.below x.below) HW.out).mono fun _ _ ⟨h1, h2⟩ => ⟨by rw [h1, HR2.out], h2⟩))
        | (go_at_call 12; exact Later.calls (awake_any _))
        clear hK K))
  trace_state
  refine wpQuiet_nil ?_
  rintro _ ⟨x, rfl⟩
  go_wp2
  go_ret
  exact ⟨rfl, x.below⟩

theorem crcbytes_walk (A0 : Option Addr) (c0 : Nat) (xs : List Int) (w : World) (hr : ReadsInt w .u8 A0 xs.length xs) (hc : xs.length ≤ c0) (hl : xs.length * 1 ≤ 140737488351232) (hw : ∀ x ∈ xs, 0 ≤ x ∧ x ≤ 255) :
    Calls Try.prog 6 #[.slice A0 xs.length c0] w fun e w' => e = .returned (.bool true) ∧ Below w.heap.size w w' := by
  have HR := Aside0.mk hr
  have HW := Aside0.mk hw
  clear hr hw
  obtain ⟨i0, hi, _, hsz, _⟩ := info_parts info5
  have HI := Aside0.mk hi
  have HS := Aside0.mk hsz
  clear hi hsz
  go_enter Try.func6, Try.ntmps6
  go_wp2_with fail
  refine (cof_new none 0 0 [] _ rfl ⟨rfl, by decide, fun h => absurd h (by decide)⟩ (by decide)).mono ?_
  rintro e w1 ⟨r0, rfl, hr0, rfl⟩
  go_wp2_with fail
  go_loop [3, 4] (fun t u => ∃ (v i : Nat), t = .int .u32 (v : Int) ∧ u = .int .i64 (i : Int) ∧ i ≤ xs.length ∧ Aside0 (v = crcF 0 (xs.take i))) (fun _ u => xs.length - (intOf u).toNat)
  case atStart => exact ⟨crcF 0 [], 0, by rw [hr0.out], rfl, by omega, ⟨rfl⟩⟩
  case round =>
    obtain ⟨v, i, rfl, rfl, hi, HV⟩ := hrel
    have hv := crcF_lt 0 (xs.take i)
    rw [← HV.out] at hv
    have HVL := Aside0.mk hv
    clear hv
    by_cases hlt : i < xs.length
    · obtain ⟨A2, hcut, hrm⟩ := mid_int (P := Try.prog) (k := .u8) 23 5 Try.underlying23 HI.out HS.out A0 c0 xs i (i + 1) (by omega) (by omega) hc
      have HM := Aside0.mk (hrm _ HR.out)
      have hcut' := fun W => hcut W (i : Int) ((i : Int) + 1) rfl (by omega)
      clear hcut hrm
      rw [show i + 1 - i = 1 from by omega] at HM hcut'
      go_wp2_with fail
      refine (cmore_new A2 1 (c0 - i) v _ _ (by simp; omega) HM.out (by omega) (by have := HVL.out; omega) (fun x hx => HW.out x (List.mem_of_mem_drop (List.mem_of_mem_take hx)))).mono ?_
      rintro e w1 ⟨r1, rfl, hr1, rfl⟩
      go_wp2
      go_round
      case rel =>
        refine ⟨crcF v ((xs.drop i).take 1), i + 1, by rw [hr1.out, Int.toNat_natCast], by go_num, by omega, ⟨?_⟩⟩
        have e1 : xs.take (i + 1) = xs.take i ++ (xs.drop i).take 1 := by rw [List.take_add]
        rw [e1, crcF_append _ _ (fun x hx => HW.out x (List.mem_of_mem_take hx)), ← HV.out]
      case measure => simp [intOf]; omega
    · go_wp2_with fail
      refine (cof_new A0 _ c0 xs _ rfl HR.out HW.out).mono ?_
      rintro e w1 ⟨r1, rfl, hr1, rfl⟩
      have he : ((v : Int) == r1) = true := by
        rw [beq_iff_eq, hr1.out, HV.out, List.take_of_length_le (by omega)]
      go_wp2_with fail
      refine (cmore_new none 0 0 v [] _ rfl ⟨rfl, by decide, fun h => absurd h (by decide)⟩ (by omega) (by have := HVL.out; omega) (by decide)).mono ?_
      rintro e w1 ⟨r2, rfl, hr2, rfl⟩
      have he2 : (r2 == (v : Int)) = true := by
        rw [beq_iff_eq, hr2.out, Int.toNat_natCast, crcF_nil _ HVL.out]
      go_wp2_with fail
      refine (awake_any _).mono ?_
      rintro e w3 ⟨rfl, hB3⟩
      have HB3 := Aside0.mk hB3
      clear hB3
      go_wp2
      go_ret
      exact ⟨rfl, HB3.out⟩
end Go.Proofs.Ytldkgamgflnjkaa
