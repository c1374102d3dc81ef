/- The law DedupApart's walk. -/
import Derived.Test.YtmdkgbbgppiaaaaDOnce
namespace Go.Proofs.Ytmdkgbbgppiaaaa
set_option linter.unusedVariables false
set_option linter.unusedSimpArgs false
open Go.RowKit Go.Proofs.YtmdkgbbgppiaaaaW.PrintWords

theorem stR_len {s : Nat} {R : List ((Int × Int) × Pk)} {last : Int → Option Int} {f i : Int} {p : Pk} : (stR s R last f i p).length ≤ R.length + 1 := by
  unfold stR addR
  split
  · split
    · rw [List.length_drop, List.length_append, List.length_singleton]; omega
    · rw [List.length_append, List.length_singleton]; omega
  · omega
theorem stR_mem {s : Nat} {R : List ((Int × Int) × Pk)} {last : Int → Option Int} {f i : Int} {p : Pk} {e : (Int × Int) × Pk} (h : e ∈ stR s R last f i p) : e ∈ R ∨ e = ((f, i), p) := by
  unfold stR at h
  split at h
  · exact addR_mem h
  · exact .inl h
theorem repR_app (R : List ((Int × Int) × Pk)) (k : Int × Int) (p : Pk) (k' : Int × Int) : repR (R ++ [(k, p)]) k' = (repR R k').or (if k = k' then some p else none) := by
  rw [repR, repR, List.find?_append]
  cases List.find? (fun e => decide (e.1 = k')) R with
  | some e => rfl
  | none =>
    by_cases h : k = k'
    · subst h; simp
    · rw [if_neg h]; simp [h]
theorem look_known {s : Nat} {R : List ((Int × Int) × Pk)} {last : Int → Option Int} {f i : Int} {p : Pk} (hl : R.length < s) : (lookS (stR s R last f i p) (stL R last f i) f i).2 ≠ 1 := by
  unfold stR stL
  by_cases h : (lookS R last f i).2 = 1
  · rw [if_pos h, if_pos h, addR, if_neg (by omega)]
    unfold lookS
    rw [repR_app, if_pos rfl]
    cases repR R (f, i) with
    | some q => simp
    | none => simp
  · rw [if_neg h, if_neg h]
    exact h
theorem look_other {s : Nat} {R : List ((Int × Int) × Pk)} {last : Int → Option Int} {f i f' i' : Int} {p : Pk} (hl : R.length < s) (hf : f' ≠ f) : lookS (stR s R last f i p) (stL R last f i) f' i' = lookS R last f' i' := by
  unfold stR stL
  by_cases h : (lookS R last f i).2 = 1
  · rw [if_pos h, if_pos h, addR, if_neg (by omega)]
    have h1 : repR (R ++ [((f, i), p)]) (f', i') = repR R (f', i') := by
      rw [repR_app, if_neg (fun e => hf (Prod.mk.inj e).1.symm), Option.or_none]
    have h2 : setF last f i f' = last f' := by rw [setF, if_neg hf]
    unfold lookS
    rw [h1, h2]
  · rw [if_neg h, if_neg h]
theorem look_kinds (R : List ((Int × Int) × Pk)) (last : Int → Option Int) (f i : Int) : ∃ p k, lookS R last f i = (p, k) ∧ (k = 1 ∨ (k = 2 ∧ ((f, i), p) ∈ R) ∨ k = 3) := by
  unfold lookS
  cases hr : repR R (f, i) with
  | some p => exact ⟨p, 2, rfl, .inr (.inl ⟨rfl, repR_mem hr⟩)⟩
  | none =>
    cases last f with
    | none => exact ⟨_, _, rfl, .inl rfl⟩
    | some n =>
      simp only
      split
      · exact ⟨_, _, rfl, .inr (.inr rfl)⟩
      · exact ⟨_, _, rfl, .inl rfl⟩
/-- Who has which numbers. -/
structure ApInv (a b : Int) (n : Nat) (R : List ((Int × Int) × Pk)) : Prop where
  len : R.length ≤ n
  ra : ∀ e ∈ R, e.1.1 = a → e.2.id = 1
  rb : ∀ e ∈ R, e.1.1 = b → e.2.id = 2
theorem ApInv.stepA {a b : Int} {n : Nat} {R : List ((Int × Int) × Pk)} (h : ApInv a b n R) (hab : a ≠ b) (last : Int → Option Int) (i : Int) : ApInv a b (n + 1) (stR 8 R last a i (pkI 1)) where
  len := Nat.le_trans stR_len (by have := h.len; omega)
  ra := fun e he hx => by
    rcases stR_mem he with he | he
    · exact h.ra e he hx
    · rw [he]; rfl
  rb := fun e he hx => by
    rcases stR_mem he with he | he
    · exact h.rb e he hx
    · rw [he] at hx; exact absurd hx hab
theorem ApInv.stepB {a b : Int} {n : Nat} {R : List ((Int × Int) × Pk)} (h : ApInv a b n R) (hab : a ≠ b) (last : Int → Option Int) (i : Int) : ApInv a b (n + 1) (stR 8 R last b i (pkI 2)) where
  len := Nat.le_trans stR_len (by have := h.len; omega)
  ra := fun e he hx => by
    rcases stR_mem he with he | he
    · exact h.ra e he hx
    · rw [he] at hx; exact absurd hx.symm hab
  rb := fun e he hx => by
    rcases stR_mem he with he | he
    · exact h.rb e he hx
    · rw [he]; rfl

set_option maxRecDepth 100000 in
set_option maxHeartbeats 4000000 in
theorem dedupapart_walk (a0 a1 : Int) (A2 : Option Addr) (c2 : Nat) (xs : List Int) (w : World) (h0 : -9223372036854775808 ≤ a0 ∧ a0 ≤ 9223372036854775807) (h1 : -9223372036854775808 ≤ a1 ∧ a1 ≤ 9223372036854775807)
    (hr2 : ReadsInt w .i64 A2 xs.length xs) (hc2 : xs.length ≤ c2) (hl2 : xs.length * 8 ≤ 140737488351232) (hw2 : ∀ x ∈ xs, -9223372036854775808 ≤ x ∧ x ≤ 9223372036854775807) :
    Calls Try.prog 4 #[.int .i64 a0, .int .i64 a1, .slice A2 xs.length c2] w fun e w' => e = .returned (.bool true) ∧ Below w.heap.size w w' := by
  have H0 : Aside0 (In64 a0) := ⟨h0⟩
  have H1 : Aside0 (In64 a1) := ⟨h1⟩
  have HR := Aside0.mk hr2
  have HW := Aside0.mk hw2
  clear h0 h1 hr2 hw2
  by_cases hab : a0 = a1
  · have e0 : (a0 == a1) = true := beq_iff_eq.2 hab
    clear hab
    go_enter Try.func4, Try.ntmps4
    go_wp2_with fail
    refine (awake_any _).mono ?_
    rintro e w6 ⟨rfl, hB6⟩
    have HB6 := Aside0.mk hB6
    clear hB6
    go_wp2
    go_ret
    exact ⟨rfl, HB6.out⟩
  · have e0 : (a0 == a1) = false := beq_eq_false_iff_ne.2 hab
    have HAB := Aside0.mk hab
    clear hab
    go_enter Try.func4, Try.ntmps4
    go_wp2_with fail
    refine (make_c 8 8 w (in64 _ (by decide) (by decide)) (by decide)).mono ?_
    rintro e w1 ⟨b, rfl, HC, HB⟩
    go_wp2_with fail
    go_loopw [8] (fun u wr => ∃ i : Nat, u = .int .i64 (i : Int) ∧ i ≤ 4 ∧ Aside0 (∃ R last, Cch wr w.heap.size b 8 R last ∧ ApInv a0 a1 (2 * i) R) ∧ Aside0 (Below w.heap.size w wr)) (fun u _ => 4 - (intOf u).toNat)
    case atStart => exact ⟨0, rfl, by omega, ⟨⟨_, _, HC.out, ⟨by simp, by simp, by simp⟩⟩⟩, HB⟩
    case round =>
      obtain ⟨i, rfl, hi, HX, HBr⟩ := hrel
      clear HC HB
      obtain ⟨R, last, HCr, HIr⟩ := HX.out
      replace HCr := Aside0.mk HCr
      replace HIr := Aside0.mk HIr
      clear HX
      by_cases hlt : i < xs.length ∧ i < 4
      · obtain ⟨g1, g3⟩ := hlt
        obtain ⟨ad, rfl, k2⟩ := (HR.out.below HBr.out).at_ (i : Int) (by omega) (by omega)
        rw [Int.toNat_natCast] at k2
        obtain ⟨x, hx⟩ : ∃ x, rd xs (i : Int) = x := ⟨_, rfl⟩
        have HXI : Aside0 (In64 x) := ⟨by
          rw [← hx]
          have h9 := HW.out (rd xs (i : Int)) (by simp only [rd, Int.toNat_natCast]; rw [List.getD_eq_getElem?_getD, List.getElem?_eq_getElem g1, Option.getD_some]; exact List.getElem_mem _)
          exact h9⟩
        have HRD : Aside0 (∀ W, Below w.heap.size w W → W.cell? (ad.add i) = some (.int .i64 x)) := ⟨fun W hW => by
          obtain ⟨_, e9, k9⟩ := (HR.out.below hW).at_ (i : Int) (by omega) (by omega)
          cases e9
          rw [Int.toNat_natCast, hx] at k9
          exact k9⟩
        rw [hx] at k2
        clear hx
        have g1' : (i : Int) < (xs.length : Int) := by omega
        have e1 : decide ((i : Int) < (xs.length : Int)) = true := decide_eq_true g1'
        have e3 : decide (i < xs.length) = true := decide_eq_true g1
        have e5 : decide ((i : Int) < 4) = true := decide_eq_true (by omega)
        -- was
        obtain ⟨q0, kw, hq0, _⟩ := look_kinds R last a1 x
        have HQ0 := Aside0.mk hq0
        have HQ1 : Aside0 (lookS (stR 8 R last a0 x (pkI 1)) (stL R last a0 x) a1 x = (q0, kw)) := ⟨by rw [look_other (by have := HIr.out.len; omega) (fun e => HAB.out e.symm)]; exact hq0⟩
        clear hq0
        obtain ⟨q1, q2, q3, q4, q5, q6, q7, q8⟩ := q0
        go_wp2_with fail
        refine (look_c wr w.heap.size b 8 R last HCr a1 x H1.out HXI.out _ kw HQ0).mono ?_
        rintro e w3 ⟨rfl, HB3⟩
        have HC3 := Aside0.mk ((HCr.out.below HB3.out).below ((Below.refl w3.heap.size w3).alloc (Nat.le_refl _) (.cells #[.int .i64 q1, .int .i64 q2, .int .i64 q3, .int .i64 q4, .int .i64 q5, .string q6, .int .i64 q7, .string q8] 28)))
        replace HB3 := Aside0.mk ((HBr.out.trans (HB3.out.mono HBr.out.size)).alloc (HBr.out.trans (HB3.out.mono HBr.out.size)).size (.cells #[.int .i64 q1, .int .i64 q2, .int .i64 q3, .int .i64 q4, .int .i64 q5, .string q6, .int .i64 q7, .string q8] 28))
        have k3 := HRD.out _ HB3.out
        clear k2
        unfold pkV
        go_wp2_with fail
        refine (add_c _ w.heap.size b 8 R last HC3 a0 x H0.out HXI.out (pkI 1) HB3.out.size (by have := HIr.out.len; omega) (by decide)).mono ?_
        rintro e w4 ⟨r, rfl, _, HC4, HB4⟩
        replace HB4 := Aside0.mk (HB3.out.trans HB4.out)
        have HI4 := Aside0.mk (HIr.out.stepA HAB.out last x)
        obtain ⟨p1x, kx1, hp1x, _⟩ := look_kinds (stR 8 R last a0 x (pkI 1)) (stL R last a0 x) a0 x
        have hkx := look_known (s := 8) (R := R) (last := last) (f := a0) (i := x) (p := pkI 1) (by have := HIr.out.len; omega)
        obtain ⟨R4, hR4⟩ : ∃ R4, stR 8 R last a0 x (pkI 1) = R4 := ⟨_, rfl⟩
        obtain ⟨L4, hL4⟩ : ∃ L4, stL R last a0 x = L4 := ⟨_, rfl⟩
        rw [hR4, hL4] at HC4 HQ1 hkx hp1x
        rw [hR4] at HI4
        have HKX : Aside0 ((lookS R4 L4 a0 x).2 ≠ 1) := ⟨hkx⟩
        clear hR4 hL4 HCr HC3 HQ0 hkx hp1x k3
        have k4 := HRD.out _ HB4.out
        go_wp2_with fail
        refine (look_c w4 w.heap.size b 8 R4 L4 HC4 a1 x H1.out HXI.out _ kw HQ1).mono ?_
        rintro e w5 ⟨rfl, HB5⟩
        have HC5 := Aside0.mk ((HC4.out.below HB5.out).below ((Below.refl w5.heap.size w5).alloc (Nat.le_refl _) (.cells #[.int .i64 q1, .int .i64 q2, .int .i64 q3, .int .i64 q4, .int .i64 q5, .string q6, .int .i64 q7, .string q8] 28)))
        replace HB5 := Aside0.mk ((HB4.out.trans (HB5.out.mono HB4.out.size)).alloc (HB4.out.trans (HB5.out.mono HB4.out.size)).size (.cells #[.int .i64 q1, .int .i64 q2, .int .i64 q3, .int .i64 q4, .int .i64 q5, .string q6, .int .i64 q7, .string q8] 28))
        have k5 := HRD.out _ HB5.out
        clear k4
        unfold pkV
        go_wp2_with fail
        refine (add_c _ w.heap.size b 8 R4 L4 HC5 a1 x H1.out HXI.out (pkI 2) HB5.out.size (by have := HI4.out.len; omega) (by decide)).mono ?_
        rintro e w6 ⟨r2, rfl, _, HC6, HB6⟩
        replace HB6 := Aside0.mk (HB5.out.trans HB6.out)
        have HI6 := Aside0.mk (HI4.out.stepB HAB.out L4 x)
        have hkx : (lookS (stR 8 R4 L4 a1 x (pkI 2)) (stL R4 L4 a1 x) a0 x).2 ≠ 1 := by
          rw [look_other (by have := HI4.out.len; omega) HAB.out]
          exact HKX.out
        have hky := look_known (s := 8) (R := R4) (last := L4) (f := a1) (i := x) (p := pkI 2) (by have := HI4.out.len; omega)
        obtain ⟨R6, hR6⟩ : ∃ R6, stR 8 R4 L4 a1 x (pkI 2) = R6 := ⟨_, rfl⟩
        obtain ⟨L6, hL6⟩ : ∃ L6, stL R4 L4 a1 x = L6 := ⟨_, rfl⟩
        rw [hR6, hL6] at HC6 hkx hky
        rw [hR6] at HI6
        clear hR6 hL6 HC4 HC5 HQ1 HKX k5
        obtain ⟨p, kx, hpx, hkx2⟩ := look_kinds R6 L6 a0 x
        obtain ⟨q, ky, hqy, hky2⟩ := look_kinds R6 L6 a1 x
        rw [hpx] at hkx
        rw [hqy] at hky
        have HPX := Aside0.mk hpx
        have HQY := Aside0.mk hqy
        have HKX : Aside0 (kx = 2 ∧ p.id = 1 ∨ kx = 3) := ⟨by
          rcases hkx2 with h | ⟨h, hm⟩ | h
          · exact absurd h hkx
          · exact .inl ⟨h, HI6.out.ra _ hm rfl⟩
          · exact .inr h⟩
        have HKY : Aside0 (ky = 2 ∧ q.id = 2 ∨ ky = 3) := ⟨by
          rcases hky2 with h | ⟨h, hm⟩ | h
          · exact absurd h hky
          · exact .inl ⟨h, HI6.out.rb _ hm rfl⟩
          · exact .inr h⟩
        clear hpx hqy hkx hky hkx2 hky2
        have k6 := HRD.out _ HB6.out
        obtain ⟨m1, m2, m3, m4, m5, m6, m7, m8⟩ := p
        obtain ⟨n1, n2, n3, n4, n5, n6, n7, n8⟩ := q
        go_wp2_with fail
        refine (look_c w6 w.heap.size b 8 R6 L6 HC6 a0 x H0.out HXI.out _ kx HPX).mono ?_
        rintro e w7 ⟨rfl, HB7⟩
        have HC7 := Aside0.mk ((HC6.out.below HB7.out).below ((Below.refl w7.heap.size w7).alloc (Nat.le_refl _) (.cells #[.int .i64 m1, .int .i64 m2, .int .i64 m3, .int .i64 m4, .int .i64 m5, .string m6, .int .i64 m7, .string m8] 28)))
        replace HB7 := Aside0.mk ((HB6.out.trans (HB7.out.mono HB6.out.size)).alloc (HB6.out.trans (HB7.out.mono HB6.out.size)).size (.cells #[.int .i64 m1, .int .i64 m2, .int .i64 m3, .int .i64 m4, .int .i64 m5, .string m6, .int .i64 m7, .string m8] 28))
        have HM7 := Aside0.mk (heap_alloc_new w7 (.cells #[.int .i64 m1, .int .i64 m2, .int .i64 m3, .int .i64 m4, .int .i64 m5, .string m6, .int .i64 m7, .string m8] 28))
        have k7 := HRD.out _ HB7.out
        clear k6
        unfold pkV
        go_wp2_with fail
        refine (look_c _ w.heap.size b 8 R6 L6 HC7 a1 x H1.out HXI.out _ ky HQY).mono ?_
        rintro e w8 ⟨rfl, HB8⟩
        have HM8 : Aside0 (w8.heap[w7.heap.size]? = some (.cells #[.int .i64 m1, .int .i64 m2, .int .i64 m3, .int .i64 m4, .int .i64 m5, .string m6, .int .i64 m7, .string m8] 28 (0, 0))) := ⟨by rw [HB8.out.block _ (blk_lt HM7.out)]; exact HM7.out⟩
        have hB88 : Below w8.heap.size w8 (w8.alloc (.cells #[.int .i64 n1, .int .i64 n2, .int .i64 n3, .int .i64 n4, .int .i64 n5, .string n6, .int .i64 n7, .string n8] 28)) := (Below.refl _ _).alloc (Nat.le_refl _) _
        have HC8 := Aside0.mk ((HC7.out.below HB8.out).below hB88)
        have hm9 : (w8.alloc (.cells #[.int .i64 n1, .int .i64 n2, .int .i64 n3, .int .i64 n4, .int .i64 n5, .string n6, .int .i64 n7, .string n8] 28)).heap[w7.heap.size]? = some (.cells #[.int .i64 m1, .int .i64 m2, .int .i64 m3, .int .i64 m4, .int .i64 m5, .string m6, .int .i64 m7, .string m8] 28 (0, 0)) := by rw [hB88.block _ (blk_lt HM8.out)]; exact HM8.out
        replace HB8 := Aside0.mk ((HB7.out.trans (HB8.out.mono HB7.out.size)).alloc (HB7.out.trans (HB8.out.mono HB7.out.size)).size (.cells #[.int .i64 n1, .int .i64 n2, .int .i64 n3, .int .i64 n4, .int .i64 n5, .string n6, .int .i64 n7, .string n8] 28))
        have k8 : (w8.alloc (.cells #[.int .i64 n1, .int .i64 n2, .int .i64 n3, .int .i64 n4, .int .i64 n5, .string n6, .int .i64 n7, .string n8] 28)).cell? ⟨w7.heap.size, 3, none⟩ = some (.int .i64 m4) := blk_cell hm9 3
        clear k7 hm9 hB88 HM7 HM8
        have hx := HKX.out
        have hy := HKY.out
        unfold pkV
        rcases hx with ⟨rfl, rfl⟩ | rfl <;> rcases hy with ⟨rfl, rfl⟩ | rfl
        all_goals
          go_wp2_with fail
          go_roundw
          case rel => exact ⟨i + 1, by go_num, by omega, ⟨⟨R6, L6, HC8.out, ⟨by have := HI6.out.len; omega, HI6.out.ra, HI6.out.rb⟩⟩⟩, HB8⟩
          case measure => simp [intOf]; omega
      · by_cases g1 : i < xs.length
        · obtain rfl : i = 4 := by omega
          clear hlt
          go_wp2_with fail
          all_goals
            refine (awake_any _).mono ?_
            rintro e w6 ⟨rfl, hB6⟩
            have HB6 := Aside0.mk (HBr.out.trans (hB6.mono HBr.out.size))
            clear hB6
            go_wp2
            go_ret
            exact ⟨rfl, HB6.out⟩
        · clear hlt
          go_wp2_with fail
          all_goals
            refine (awake_any _).mono ?_
            rintro e w6 ⟨rfl, hB6⟩
            have HB6 := Aside0.mk (HBr.out.trans (hB6.mono HBr.out.size))
            clear hB6
            go_wp2
            go_ret
            exact ⟨rfl, HB6.out⟩
end Go.Proofs.Ytmdkgbbgppiaaaa
