/- The reference of layer 2: what its functions compute. -/
import Derived.Test.YtachnjiielfddaaVAwake
import Derived.Test.YtachnjiielfddaaVPure
namespace Go.Proofs.Ytachnjiielfddaa
set_option linter.unusedVariables false
set_option linter.unusedSimpArgs false
open Go.RowKit Go.Proofs.YtachnjiielfddaaW.PrintWords

set_option maxRecDepth 100000 in
theorem rput_any (v : Int) (w : World) (h0 : 0 ≤ v) (hv : v < 18446744073709551616) :
    Calls Try.prog 14 #[.int .u64 v] w fun e w' => ∃ (v' : Value) (zs : List Int), e = .returned v' ∧ Aside0 (zs = enc 10 v.toNat) ∧ Aside0 (w'.ownsRow w.heap.size 5 1 v' zs.length (nums .u8 zs)) ∧ Aside0 (Below w.heap.size w w') := by
  obtain ⟨v, rfl⟩ := Int.eq_ofNat_of_zero_le h0
  rw [Int.toNat_natCast]
  have Hv := Aside0.mk hv
  clear h0 hv
  go_enter Try.func14, Try.ntmps14
  go_wp2
  go_loopw [0, 3] (fun u s wr => ∃ (ys : List Int) (n k : Nat), u = .int .u64 n ∧ Aside0 (n < 18446744073709551616) ∧ Aside0 (n < 128 ^ (k + 1)) ∧ Aside0 (ys.length + k + 1 = 10) ∧ Aside0 (wr.ownsRow w.heap.size 5 1 s ys.length (nums .u8 ys)) ∧ Aside0 (ys ++ enc (k + 1) n = enc 10 v) ∧ Aside0 (Below w.heap.size w wr)) (fun u _ _ => (intOf u).toNat)
  case atStart => exact ⟨[], v, 9, rfl, ⟨by have := Hv.out; omega⟩, ⟨by have := Hv.out; omega⟩, ⟨rfl⟩, ⟨own_nil _ _ _ _⟩, ⟨rfl⟩, ⟨Below.refl _ _⟩⟩
  case round =>
    obtain ⟨ys, n, k, rfl, Hn64, Hn, Hk, Hext, Heq, Hb⟩ := hrel
    have hl' : ys.length + 1 ≤ 140737488355328 := by have := Hk.out; omega
    by_cases hlt : n < 128
    · have Hp := Aside0.mk (enc_small k n hlt)
      go_wp2_with (at_builtin; go_must (refine print_append_num (w0 := w) w.heap.size rfl (.tmp 15) (.tmp 18) 27 5 .u8 1 rfl Try.underlying27 info5 (by omega) _ ys _ rfl rfl (by exact Hext.out) Hb.out Hb.out.size (by simpa using hl') ?_); intro v1 w1 hown hb1 _ _)
      go_ret
      have e : ys ++ [(n : Int)] = enc 10 v := by rw [← Heq.out, Hp.out]
      exact ⟨_, _, rfl, ⟨e⟩, ⟨hown⟩, ⟨hb1⟩⟩
    · have Hp := Aside0.mk (enc_great k n hlt)
      have hwr : IntKind.u64.wrap ((n : Int) / 128) = (n : Int) / 128 := by rw [IntKind.wrap_u64]; have := Hn64.out; omega
      go_wp2_with (at_builtin; go_must (refine print_append_num (w0 := w) w.heap.size rfl (.tmp 6) (.tmp 11) 27 5 .u8 1 rfl Try.underlying27 info5 (by omega) _ ys _ rfl rfl (by exact Hext.out) Hb.out Hb.out.size (by simpa using hl') ?_); intro v1 w1 hown hb1 _ _)
      go_roundw
      case rel =>
        cases k with
        | zero => have := Hn.out; omega
        | succ k =>
          refine ⟨_, n / 128, k, by simp, ⟨by have := Hn64.out; omega⟩, ⟨?_⟩, ⟨?_⟩, ⟨hown⟩, ⟨?_⟩, ⟨hb1⟩⟩
          · have := Hn.out
            rw [Nat.div_lt_iff_lt_mul (by omega)]
            rwa [Nat.pow_succ] at this
          · have := Hk.out
            simp only [List.length_append, List.length_singleton]
            omega
          · rw [← Heq.out, Hp.out, List.append_assoc]
            congr 2
      case measure =>
        simp [intOf]
        omega

theorem rzig_any (n : Int) (w : World) (h0 : -9223372036854775808 ≤ n) (h1 : n ≤ 9223372036854775807) :
    Calls Try.prog 15 #[.int .i64 n] w fun e w' => e = .returned (.int .u64 (zigF n)) ∧ w = w' := by
  unfold zigF
  have H0 := Aside0.mk h0
  have H1 := Aside0.mk h1
  by_cases h : 0 ≤ n
  · have hw : IntKind.u64.wrap n = n := by rw [IntKind.wrap_u64]; omega
    have hw2 : IntKind.u64.wrap (2 * n) = 2 * n := by rw [IntKind.wrap_u64]; omega
    rw [if_pos h]
    clear h0 h1
    go_enter Try.func15, Try.ntmps15
    go_wp2
    go_ret
    exact ⟨rfl, rfl⟩
  · rw [if_neg h]
    go_enter Try.func15, Try.ntmps15
    go_wp2
    go_ret
    rw [show -2 * n - 1 = 2 * -(n + 1) + 1 from by omega]
    exact ⟨rfl, rfl⟩
end Go.Proofs.Ytachnjiielfddaa
