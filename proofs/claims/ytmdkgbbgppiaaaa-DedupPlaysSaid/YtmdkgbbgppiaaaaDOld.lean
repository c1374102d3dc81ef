/- awake of layer 22; the law DedupOld's walk. -/
import Derived.Test.YtmdkgbbgppiaaaaDCch
namespace Go.Proofs.Ytmdkgbbgppiaaaa
set_option linter.unusedVariables false
set_option linter.unusedSimpArgs false
open Go.RowKit Go.ChangeMaps Go.Proofs.YtmdkgbbgppiaaaaW.PrintWords

theorem in64 (x : Int) (h1 : -9223372036854775808 ≤ x) (h2 : x ≤ 9223372036854775807) : In64 x := ⟨h1, h2⟩
def pkI (i : Int) : Pk := ⟨0, 0, 0, i, 0, ByteArray.empty, 0, ByteArray.empty⟩

set_option maxRecDepth 100000 in
theorem awake_any (w : World) :
    Calls Try.prog 11 #[] w fun e w' => e = .returned (.bool true) ∧ Below w.heap.size w w' := by
  go_enter Try.func11, Try.ntmps11
  go_wp2_with fail
  refine (make_c 1 1 w (in64 _ (by decide) (by decide)) (by decide)).mono ?_
  rintro e w1 ⟨b, rfl, HC, HB⟩
  go_wp2_with fail
  refine (addNew_c w1 w.heap.size b 1 [] _ HC 1 5 (in64 _ (by decide) (by decide)) (in64 _ (by decide) (by decide)) (pkI 5) ⟨rfl⟩ HB.out.size (by decide) (by decide)).mono ?_
  rintro e w2 ⟨rfl, HC2, HB2⟩
  replace HB2 := Aside0.mk (HB.out.trans HB2.out)
  go_wp2_with fail
  refine (addNew_c w2 w.heap.size b 1 _ _ HC2 1 6 (in64 _ (by decide) (by decide)) (in64 _ (by decide) (by decide)) (pkI 6) ⟨rfl⟩ HB2.out.size (by decide) (by decide)).mono ?_
  rintro e w3 ⟨rfl, HC3, HB3⟩
  replace HB3 := Aside0.mk (HB2.out.trans HB3.out)
  go_wp2_with fail
  refine (look_c w3 w.heap.size b 1 _ _ HC3 1 5 (in64 _ (by decide) (by decide)) (in64 _ (by decide) (by decide)) pk0 3 ⟨rfl⟩).mono ?_
  rintro e w4 ⟨rfl, HB4⟩
  have HC4 := Aside0.mk (HC3.out.below HB4.out)
  replace HB4 := Aside0.mk (HB3.out.trans (HB4.out.mono HB3.out.size))
  unfold pkV pk0
  go_wp2_with fail
  have HC5 := Aside0.mk (HC4.out.below ((Below.refl w4.heap.size w4).alloc (Nat.le_refl _) (.cells #[.int .i64 0, .int .i64 0, .int .i64 0, .int .i64 0, .int .i64 0, .string ByteArray.empty, .int .i64 0, .string ByteArray.empty] 28)))
  have HB5 := Aside0.mk (HB4.out.alloc HB4.out.size (.cells #[.int .i64 0, .int .i64 0, .int .i64 0, .int .i64 0, .int .i64 0, .string ByteArray.empty, .int .i64 0, .string ByteArray.empty] 28))
  refine (look_c _ w.heap.size b 1 _ _ HC5 1 6 (in64 _ (by decide) (by decide)) (in64 _ (by decide) (by decide)) (pkI 6) 2 ⟨rfl⟩).mono ?_
  rintro e w6 ⟨rfl, HB6⟩
  replace HB6 := Aside0.mk (HB5.out.trans (HB6.out.mono HB5.out.size))
  unfold pkV pkI
  go_wp2
  go_ret
  exact ⟨rfl, HB6.out.alloc HB6.out.size _⟩
theorem xor_one (x : Int) (h : In64 x) : In64 (Go.bits .xor .i64 x 1) ∧ Go.bits .xor .i64 x 1 ≠ x := by
  obtain ⟨h1, h2⟩ := h
  obtain ⟨m, hm⟩ : ∃ m : Nat, (BitVec.ofInt 64 x).toNat = m := ⟨_, rfl⟩
  have hmx : (m : Int) = x % 18446744073709551616 := by
    rw [← hm, BitVec.toNat_ofInt]
    omega
  have hb : Go.bits .xor .i64 x 1 = IntKind.i64.wrap ((m ^^^ 1 : Nat) : Int) := by
    show IntKind.i64.wrap ((BitVec.ofInt 64 x ^^^ BitVec.ofInt 64 1).toNat : Int) = _
    rw [BitVec.toNat_xor, hm]
    rfl
  have hl : m ^^^ 1 < 18446744073709551616 := Nat.xor_lt_two_pow (n := 64) (by omega) (by decide)
  have hne : m ^^^ 1 ≠ m := by
    intro e
    have h3 : m ^^^ (m ^^^ 1) = m ^^^ m := by rw [e]
    rw [← Nat.xor_assoc, Nat.xor_self, Nat.zero_xor] at h3
    omega
  rw [hb, IntKind.wrap_i64]
  refine ⟨⟨by omega, by omega⟩, by omega⟩

set_option maxRecDepth 100000 in
theorem dedupold_walk (a0 a1 a2 : Int) (w : World) (h0 : -9223372036854775808 ≤ a0 ∧ a0 ≤ 9223372036854775807) (h1 : -9223372036854775808 ≤ a1 ∧ a1 ≤ 9223372036854775807) (h2 : -9223372036854775808 ≤ a2 ∧ a2 ≤ 9223372036854775807) :
    Calls Try.prog 6 #[.int .i64 a0, .int .i64 a1, .int .i64 a2] w fun e w' => e = .returned (.bool true) ∧ Below w.heap.size w w' := by
  have H0 : Aside0 (In64 a0) := ⟨h0⟩
  have H1 : Aside0 (In64 a1) := ⟨h1⟩
  have H2 : Aside0 (In64 a2) := ⟨h2⟩
  have HX := Aside0.mk (xor_one a0 h0)
  clear h0 h1 h2
  go_enter Try.func6, Try.ntmps6
  go_wp2_with fail
  refine (make_c 4 4 w (in64 _ (by decide) (by decide)) (by decide)).mono ?_
  rintro e w1 ⟨b, rfl, HC, HB⟩
  go_wp2_with fail
  refine (addNew_c w1 w.heap.size b 4 [] _ HC a0 a1 H0.out H1.out pk0 ⟨rfl⟩ HB.out.size (by decide) (by decide)).mono ?_
  rintro e w2 ⟨rfl, HC2, HB2⟩
  replace HB2 := Aside0.mk (HB.out.trans HB2.out)
  go_wp2_with fail
  obtain ⟨p, k, hpk⟩ : ∃ p k, lookS (addR 4 [] ((a0, a1), pk0)) (setF (fun _ => none) a0 a1) a0 a2 = (p, k) := ⟨_, _, rfl⟩
  have HPK := Aside0.mk hpk
  have hk : Aside0 (k = if a2 = a1 then 2 else if a2 < a1 then 3 else 1) := ⟨by
    have h9 := hpk
    rw [lookS, addR] at h9
    simp only [List.length_nil, Nat.zero_add, show ¬ (4 < 1) by omega, if_false, List.nil_append, repR, List.find?_cons, List.find?_nil, setF, if_true] at h9
    by_cases e : a2 = a1
    · subst e
      simp at h9
      rw [if_pos rfl]
      exact h9.2.symm
    · have e2 : ¬ ((a0, a1) = (a0, a2)) := by intro h; exact e (Prod.mk.inj h).2.symm
      rw [decide_eq_false e2] at h9
      simp only [Option.map_none] at h9
      rw [if_neg e]
      by_cases e3 : a2 < a1
      · rw [if_pos (by omega)] at h9
        rw [if_pos e3]
        exact (Prod.mk.inj h9).2.symm
      · rw [if_neg (by omega)] at h9
        rw [if_neg e3]
        exact (Prod.mk.inj h9).2.symm⟩
  clear hpk
  refine (look_c w2 w.heap.size b 4 _ _ HC2 a0 a2 H0.out H2.out p k HPK).mono ?_
  rintro e w3 ⟨rfl, HB3⟩
  have HC3 := Aside0.mk (HC2.out.below HB3.out)
  replace HB3 := Aside0.mk (HB2.out.trans (HB3.out.mono HB2.out.size))
  obtain ⟨p1, p2, p3, p4, p5, p6, p7, p8⟩ := p
  unfold pkV
  go_wp2_with fail
  have HC4 := Aside0.mk (HC3.out.below ((Below.refl w3.heap.size w3).alloc (Nat.le_refl _) (.cells #[.int .i64 p1, .int .i64 p2, .int .i64 p3, .int .i64 p4, .int .i64 p5, .string p6, .int .i64 p7, .string p8] 28)))
  have HB4 := Aside0.mk (HB3.out.alloc HB3.out.size (.cells #[.int .i64 p1, .int .i64 p2, .int .i64 p3, .int .i64 p4, .int .i64 p5, .string p6, .int .i64 p7, .string p8] 28))
  refine (last_c _ w.heap.size b 4 _ _ HC4 a0 H0.out (some a1) ⟨by simp [setF]⟩).mono ?_
  rintro e w5 ⟨rfl, rfl⟩
  simp only [Option.getD_some, Option.isSome_some]
  go_wp2_with fail
  refine (last_c _ w.heap.size b 4 _ _ HC4 (Go.bits .xor .i64 a0 1) HX.out.1 none ⟨by rw [setF, if_neg HX.out.2]⟩).mono ?_
  rintro e w5 ⟨rfl, rfl⟩
  simp only [Option.getD_none, Option.isSome_none]
  by_cases e1 : a2 = a1
  · have hk2 := hk.out
    rw [if_pos e1] at hk2
    subst hk2
    have eb : (a2 == a1) = true := beq_iff_eq.2 e1
    go_wp2_with fail
    refine (awake_any _).mono ?_
    rintro e w6 ⟨rfl, hB6⟩
    have HB6 := Aside0.mk (HB4.out.trans (hB6.mono HB4.out.size))
    clear hB6
    go_wp2
    go_ret
    exact ⟨rfl, HB6.out⟩
  · have eb : (a2 == a1) = false := beq_eq_false_iff_ne.2 e1
    by_cases e2 : a2 < a1
    · have hk2 := hk.out
      rw [if_neg e1, if_pos e2] at hk2
      subst hk2
      go_wp2_with fail
      refine (awake_any _).mono ?_
      rintro e w6 ⟨rfl, hB6⟩
      have HB6 := Aside0.mk (HB4.out.trans (hB6.mono HB4.out.size))
      clear hB6
      go_wp2
      go_ret
      exact ⟨rfl, HB6.out⟩
    · have hk2 := hk.out
      rw [if_neg e1, if_neg e2] at hk2
      subst hk2
      go_wp2_with fail
      refine (awake_any _).mono ?_
      rintro e w6 ⟨rfl, hB6⟩
      have HB6 := Aside0.mk (HB4.out.trans (hB6.mono HB4.out.size))
      clear hB6
      go_wp2
      go_ret
      exact ⟨rfl, HB6.out⟩
end Go.Proofs.Ytmdkgbbgppiaaaa
