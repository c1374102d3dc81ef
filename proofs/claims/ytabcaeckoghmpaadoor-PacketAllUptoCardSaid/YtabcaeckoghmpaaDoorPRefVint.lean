/- The reference's Put and Get of layer 2. -/
import Derived.Test.YtabcaeckoghmpaaDoorVPure
import Derived.Test.YtabcaeckoghmpaaDoorPCanon
import Derived.IntWalk
namespace Go.Proofs.YtabcaeckoghmpaaDoor
set_option linter.unusedVariables false
set_option linter.unusedSimpArgs false
open Go.RowKit Go.Proofs.YtabcaeckoghmpaaDoorW.PrintWords


set_option maxRecDepth 100000 in
theorem rput_any (v : Int) (w : World) (h0 : 0 ≤ v) (hv : v < 18446744073709551616) :
    Calls Tryd.prog 23 #[.int .u64 v] w fun e w' => ∃ (v' : Value) (zs : List Int), e = .returned v' ∧ Aside0 (zs = enc 10 v.toNat) ∧ Aside0 (w'.ownsRow w.heap.size 5 1 v' zs.length (nums .u8 zs)) ∧ Aside0 (Below w.heap.size w w') := by
  obtain ⟨v, rfl⟩ := Int.eq_ofNat_of_zero_le h0
  rw [Int.toNat_natCast]
  have Hv := Aside0.mk hv
  clear h0 hv
  go_enter Tryd.func23, Tryd.ntmps23
  go_wp2
  go_loopw [0, 3] (fun u s wr => ∃ (ys : List Int) (n k : Nat), u = .int .u64 n ∧ Aside0 (n < 18446744073709551616) ∧ Aside0 (n < 128 ^ (k + 1)) ∧ Aside0 (ys.length + k + 1 = 10) ∧ Aside0 (wr.ownsRow w.heap.size 5 1 s ys.length (nums .u8 ys)) ∧ Aside0 (ys ++ enc (k + 1) n = enc 10 v) ∧ Aside0 (Below w.heap.size w wr)) (fun u _ _ => (intOf u).toNat)
  case atStart => exact ⟨[], v, 9, rfl, ⟨by have := Hv.out; omega⟩, ⟨by have := Hv.out; omega⟩, ⟨rfl⟩, ⟨own_nil _ _ _ _⟩, ⟨rfl⟩, ⟨Below.refl _ _⟩⟩
  case round =>
    obtain ⟨ys, n, k, rfl, Hn64, Hn, Hk, Hext, Heq, Hb⟩ := hrel
    have hl' : ys.length + 1 ≤ 140737488355328 := by have := Hk.out; omega
    by_cases hlt : n < 128
    · have Hp := Aside0.mk (enc_small k n hlt)
      go_wp2_with (at_builtin; go_must (refine print_append_num (w0 := w) w.heap.size rfl (.tmp 15) (.tmp 18) 24 5 .u8 1 rfl Tryd.underlying24 info5 (by omega) _ ys _ rfl rfl (by exact Hext.out) Hb.out Hb.out.size (by simpa using hl') ?_); intro v1 w1 hown hb1 _ _)
      go_ret
      have e : ys ++ [(n : Int)] = enc 10 v := by rw [← Heq.out, Hp.out]
      exact ⟨_, _, rfl, ⟨e⟩, ⟨hown⟩, ⟨hb1⟩⟩
    · have Hp := Aside0.mk (enc_great k n hlt)
      have hwr : IntKind.u64.wrap ((n : Int) / 128) = (n : Int) / 128 := by rw [IntKind.wrap_u64]; have := Hn64.out; omega
      go_wp2_with (at_builtin; go_must (refine print_append_num (w0 := w) w.heap.size rfl (.tmp 6) (.tmp 11) 24 5 .u8 1 rfl Tryd.underlying24 info5 (by omega) _ ys _ rfl rfl (by exact Hext.out) Hb.out Hb.out.size (by simpa using hl') ?_); intro v1 w1 hown hb1 _ _)
      go_roundw
      case rel =>
        cases k with
        | zero => have := Hn.out; omega
        | succ k =>
          refine ⟨_, n / 128, k, by simp, ⟨by have := Hn64.out; omega⟩, ⟨?_⟩, ⟨?_⟩, ⟨hown⟩, ⟨?_⟩, ⟨hb1⟩⟩
          · have := Hn.out
            rw [Nat.div_lt_iff_lt_mul (by omega)]
            rwa [Nat.pow_succ] at this
          · have := Hk.out
            simp only [List.length_append, List.length_singleton]
            omega
          · rw [← Heq.out, Hp.out, List.append_assoc]
            congr 2
      case measure =>
        simp [intOf]
        omega


/-- Seven bits more, added. -/
theorem add_shift (V x : Int) (i : Nat) (h0 : 0 ≤ V) (hV : V < 2 ^ (7 * i)) (hx0 : 0 ≤ x) (hx : x ≤ 255) (hi : i < 9 ∨ i = 9 ∧ x ≤ 1) :
    IntKind.u64.wrap (V + IntKind.u64.wrap (x % 128 * 2 ^ (7 * i))) = V + x % 128 * 2 ^ (7 * i) := by
  obtain ⟨p, hp⟩ : ∃ p : Nat, p = 2 ^ (7 * i) := ⟨_, rfl⟩
  have hp' : (2 : Int) ^ (7 * i) = p := by rw [hp]; simp
  have hx7 : 0 ≤ x % 128 ∧ x % 128 < 128 := by omega
  obtain ⟨y, hy⟩ := Int.eq_ofNat_of_zero_le hx7.1
  rw [hp'] at hV ⊢
  rw [hy]
  have hprod : y * p < 2 ^ 63 + 1 ∧ p ≤ 2 ^ 63 := by
    rcases hi with hi | ⟨rfl, hx1⟩
    · have : p ≤ 2 ^ 56 := by rw [hp]; exact Nat.pow_le_pow_right (by omega) (by omega)
      have h2 : y * p ≤ 127 * 2 ^ 56 := Nat.mul_le_mul (by omega) this
      omega
    · have h1 : y ≤ 1 := by omega
      have h2 : y * p ≤ 1 * p := Nat.mul_le_mul_right _ h1
      rw [hp] at h2 ⊢
      omega
  have hc : (y : Int) * (p : Int) = ((y * p : Nat) : Int) := by simp
  rw [hc, wraps_u64 (((y * p : Nat) : Int)) (by omega) (by omega), wraps_u64 _ (by omega) (by omega)]

theorem rget_out (A : Option Addr) (c n : Nat) (a : Int) (w : World) (h : a < 0 ∨ n < a) :
    Calls Tryd.prog 27 #[.slice A n c, .int .i64 a] w fun e w' => e = .returned (.tuple #[.int .u64 0, .int .i64 0, .int .i64 1]) ∧ w = w' := by
  by_cases h0 : a < 0
  · go_enter Tryd.func27, Tryd.ntmps27
    go_wp2
    go_ret3
    exact ⟨rfl, rfl⟩
  · have h1 : n < a := by omega
    go_enter Tryd.func27, Tryd.ntmps27
    go_wp2
    go_ret3
    exact ⟨rfl, rfl⟩

theorem rget_in (A : Option Addr) (c : Nat) (xs : List Int) (a : Nat) (w : World) (hr : ReadsInt w .u8 A xs.length xs) (h : a ≤ xs.length) (hw : ∀ x ∈ xs, 0 ≤ x ∧ x ≤ 255) :
    Calls Tryd.prog 27 #[.slice A xs.length c, .int .i64 (a : Int)] w fun e w' => e = .returned (.tuple #[.int .u64 (getL a (xs.drop a) 0 0).1, .int .i64 (getL a (xs.drop a) 0 0).2.1, .int .i64 (getL a (xs.drop a) 0 0).2.2]) ∧ w = w' := by
  have hn := hr.2.1
  have HR := Aside0.mk hr
  have HW := Aside0.mk hw
  clear hr hw
  go_enter Tryd.func27, Tryd.ntmps27
  go_wp2_with fail
  go_loop [7, 8] (fun t u => ∃ (V : Int) (i : Nat), t = .int .u64 V ∧ u = .int .i64 i ∧ a + i ≤ xs.length ∧ i ≤ 9 ∧ 0 ≤ V ∧ Aside0 (V < 2 ^ (7 * i)) ∧ Aside0 (getL a (xs.drop (a + i)) i V = getL a (xs.drop a) 0 0)) (fun _ u => 10 - (intOf u).toNat)
  case atStart => exact ⟨0, 0, rfl, rfl, by omega, by omega, by omega, ⟨by decide⟩, ⟨rfl⟩⟩
  case round =>
    obtain ⟨V, i, rfl, rfl, him, hi9, hV0, HV, HG⟩ := hrel
    by_cases hlt : a + i < xs.length
    · obtain ⟨ad, rfl, hcell⟩ := HR.out.at_ ((a + i : Nat) : Int) (by omega) (by omega)
      rw [Int.toNat_natCast] at hcell
      obtain ⟨x, hx⟩ : ∃ x, rd xs ((a + i : Nat) : Int) = x := ⟨_, rfl⟩
      rw [hx] at hcell
      rw [rd, Int.toNat_natCast] at hx
      have hb := getD_byte xs HW.out (a + i)
      rw [hx] at hb
      obtain ⟨hb0, hb1⟩ := hb
      have HS := Aside0.mk (getL_step a xs (a + i) i V x (by omega) hx)
      clear hx
      by_cases h9 : i = 9
      · have h9' : ((i : Int) == 9) = true := by rw [beq_iff_eq]; omega
        have H9 := Aside0.mk h9
        clear h9
        by_cases hx1 : 1 < x
        · go_wp2
          go_ret3
          rw [← HG.out, HS.out, if_pos ⟨H9.out, hx1⟩]
          exact ⟨rfl, rfl⟩
        · have ho := Aside0.mk (add_shift V x i hV0 HV.out hb0 hb1 (.inr ⟨H9.out, by omega⟩))
          have h128 : ¬ 128 ≤ x := by omega
          by_cases hx0 : x = 0
          · have hx0' : (x == 0) = true := by rw [beq_iff_eq]; exact hx0
            have hi0 : 0 < i := by have := H9.out; omega
            have HX := Aside0.mk hx0
            clear hx0
            go_wp2
            go_ret3
            rw [← HG.out, HS.out, if_neg (by omega), if_neg (by omega), if_pos ⟨HX.out, hi0⟩]
            exact ⟨rfl, rfl⟩
          · have hx0' : (x == 0) = false := by rw [beq_eq_false_iff_ne]; exact hx0
            go_wp2
            go_ret3
            rw [← HG.out, HS.out, if_neg (by omega), if_neg (by omega), if_neg (by omega), ← ho.out]
            exact ⟨rfl, rfl⟩
      · have h9' : ((i : Int) == 9) = false := by rw [beq_eq_false_iff_ne]; omega
        have ho := Aside0.mk (add_shift V x i hV0 HV.out hb0 hb1 (.inl (by omega)))
        by_cases hx : 128 ≤ x
        · go_wp2
          go_round
          case rel =>
            rw [ho.out]
            refine ⟨_, i + 1, rfl, by go_num, by omega, by omega, ?_, ⟨?_⟩, ⟨?_⟩⟩
            · have : 0 ≤ x % 128 * 2 ^ (7 * i) := Int.mul_nonneg (by omega) (Int.le_of_lt (Int.pow_pos (by omega)))
              omega
            · have h1 := HV.out
              have h2 : x % 128 * 2 ^ (7 * i) ≤ 127 * 2 ^ (7 * i) := Int.mul_le_mul_of_nonneg_right (by omega) (Int.le_of_lt (Int.pow_pos (by omega)))
              have h3 : (2 : Int) ^ (7 * (i + 1)) = 2 ^ (7 * i) * 128 := by rw [Nat.mul_add, Int.pow_add]; rfl
              omega
            · rw [← HG.out, HS.out, if_neg (by omega), if_pos hx, Nat.add_assoc]
          case measure => simp [intOf]; omega
        · by_cases hx0 : x = 0
          · have hx0' : (x == 0) = true := by rw [beq_iff_eq]; exact hx0
            have HX := Aside0.mk hx0
            clear hx0
            by_cases hi0 : 0 < i
            · go_wp2
              go_ret3
              rw [← HG.out, HS.out, if_neg (by omega), if_neg (by omega), if_pos ⟨HX.out, hi0⟩]
              exact ⟨rfl, rfl⟩
            · go_wp2
              go_ret3
              rw [← HG.out, HS.out, if_neg (by omega), if_neg (by omega), if_neg (by omega), ← ho.out]
              exact ⟨rfl, rfl⟩
          · have hx0' : (x == 0) = false := by rw [beq_eq_false_iff_ne]; exact hx0
            go_wp2
            go_ret3
            rw [← HG.out, HS.out, if_neg (by omega), if_neg (by omega), if_neg (by omega), ← ho.out]
            exact ⟨rfl, rfl⟩
    · go_wp2
      go_ret3
      rw [← HG.out, getL_end _ _ _ _ _ (by omega)]
      exact ⟨rfl, rfl⟩

theorem rget_new (A : Option Addr) (n c : Nat) (xs : List Int) (a : Int) (w : World) (hn : n = xs.length) (hr : ReadsInt w .u8 A n xs) (hw : ∀ x ∈ xs, 0 ≤ x ∧ x ≤ 255) :
    Calls Tryd.prog 27 #[.slice A n c, .int .i64 a] w fun e w' => ∃ r1 r2 r3 : Int, e = .returned (.tuple #[.int .u64 r1, .int .i64 r2, .int .i64 r3]) ∧ Aside0 (getF xs a = (r1, r2, r3)) ∧ w = w' := by
  subst hn
  have h0 : Calls Tryd.prog 27 #[.slice A xs.length c, .int .i64 a] w fun e w' => e = .returned (.tuple #[.int .u64 (getF xs a).1, .int .i64 (getF xs a).2.1, .int .i64 (getF xs a).2.2]) ∧ w = w' := by
    unfold getF
    by_cases h : a < 0 ∨ xs.length < a
    · rw [if_pos h]
      exact rget_out A c _ a w h
    · rw [if_neg h]
      obtain ⟨n, rfl⟩ := Int.eq_ofNat_of_zero_le (show 0 ≤ a by omega)
      rw [Int.toNat_natCast]
      exact rget_in A c xs n w hr (by omega) hw
  exact h0.mono fun _ _ ⟨h1, h2⟩ => ⟨_, _, _, h1, ⟨rfl⟩, h2⟩


end Go.Proofs.YtabcaeckoghmpaaDoor
