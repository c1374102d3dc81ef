/- The law DedupOnce's walk. -/
import Derived.Test.YtmdkgbbgppiaaaaDOld
namespace Go.Proofs.Ytmdkgbbgppiaaaa
set_option linter.unusedVariables false
set_option linter.unusedSimpArgs false
open Go.RowKit Go.Proofs.YtmdkgbbgppiaaaaW.PrintWords

theorem repR_mem {R : List ((Int × Int) × Pk)} {k : Int × Int} {p : Pk} (h : repR R k = some p) : (k, p) ∈ R := by
  rw [repR, Option.map_eq_some_iff] at h
  obtain ⟨⟨k', p'⟩, he, rfl⟩ := h
  have hk := List.find?_some he
  simp only [decide_eq_true_eq] at hk
  subst hk
  exact List.mem_of_find?_eq_some he
theorem addR_mem {s : Nat} {R : List ((Int × Int) × Pk)} {e x : (Int × Int) × Pk} (h : x ∈ addR s R e) : x ∈ R ∨ x = e := by
  unfold addR at h
  split at h
  · have h2 := List.mem_of_mem_drop h
    rcases List.mem_append.1 h2 with h2 | h2
    · exact .inl h2
    · exact .inr (List.mem_singleton.1 h2)
  · rcases List.mem_append.1 h with h2 | h2
    · exact .inl h2
    · exact .inr (List.mem_singleton.1 h2)
theorem addR_len {s : Nat} {R : List ((Int × Int) × Pk)} {e : (Int × Int) × Pk} (h : R.length ≤ s) : (addR s R e).length ≤ s := by
  unfold addR
  split
  · rw [List.length_drop, List.length_append, List.length_singleton]; omega
  · rw [List.length_append, List.length_singleton]; omega
theorem lookS_one {R : List ((Int × Int) × Pk)} {last : Int → Option Int} {f i : Int} (h : (lookS R last f i).2 = 1) : lookS R last f i = (pk0, 1) := by
  unfold lookS at h ⊢
  cases hr : repR R (f, i) with
  | some p => rw [hr] at h; simp at h
  | none =>
    rw [hr] at h
    cases hl : last f with
    | none => rfl
    | some n =>
      rw [hl] at h
      simp only at h ⊢
      split
      · rename_i hn; rw [if_pos hn] at h; simp at h
      · rfl
/-- The cache's state behind any Add. -/
def stR (s : Nat) (R : List ((Int × Int) × Pk)) (last : Int → Option Int) (f i : Int) (p : Pk) : List ((Int × Int) × Pk) := if (lookS R last f i).2 = 1 then addR s R ((f, i), p) else R
def stL (R : List ((Int × Int) × Pk)) (last : Int → Option Int) (f i : Int) : Int → Option Int := if (lookS R last f i).2 = 1 then setF last f i else last
theorem add_c (w : World) (B b size : Nat) (R : List ((Int × Int) × Pk)) (last : Int → Option Int) (C : Aside0 (Cch w B b size R last)) (f i : Int) (hf : In64 f) (hi : In64 i) (p : Pk) (hBw : B ≤ w.heap.size) (hlen : R.length ≤ 100) (hs1 : 1 ≤ size) :
    Calls Try.prog 9 #[.pointer (some ⟨b, 0, none⟩), .int .i64 f, .int .i64 i, pkV p] w fun e w' => ∃ r : Int, e = .returned (.int .i64 r) ∧ Aside0 (r = if (lookS R last f i).2 = 1 then 0 else 20) ∧ Aside0 (Cch w' B b size (stR size R last f i p) (stL R last f i)) ∧ Aside0 (Below B w w') := by
  by_cases h : (lookS R last f i).2 = 1
  · refine (addNew_c w B b size R last C f i hf hi p ⟨lookS_one h⟩ hBw hlen hs1).mono ?_
    rintro e w' ⟨rfl, h1, h2⟩
    refine ⟨_, rfl, ⟨by rw [if_pos h]⟩, ?_, h2⟩
    unfold stR stL
    rw [if_pos h, if_pos h]
    exact h1
  · refine (addOld_c w B b size R last C f i hf hi p (lookS R last f i).1 (lookS R last f i).2 ⟨rfl⟩ h).mono ?_
    rintro e w' ⟨rfl, h2⟩
    refine ⟨_, rfl, ⟨by rw [if_neg h]⟩, ?_, ⟨h2.out.mono hBw⟩⟩
    unfold stR stL
    rw [if_neg h, if_neg h]
    exact ⟨C.out.below h2.out⟩

/-- What was added once: it is known. -/
structure OnceInv (s : Nat) (who id : Int) (R : List ((Int × Int) × Pk)) (last : Int → Option Int) : Prop where
  len : R.length ≤ s
  rep : ∀ e ∈ R, e.1 = (who, id) → e.2.id = 1
  last : ∃ n, last who = some n ∧ id ≤ n
theorem OnceInv.look {s : Nat} {who id : Int} {R : List ((Int × Int) × Pk)} {last : Int → Option Int} (h : OnceInv s who id R last) : ∃ p k, lookS R last who id = (p, k) ∧ (k = 2 ∧ p.id = 1 ∨ k = 3 ∧ p = pk0) := by
  obtain ⟨n, hn, hi⟩ := h.last
  unfold lookS
  cases hr : repR R (who, id) with
  | some p => exact ⟨p, 2, rfl, .inl ⟨rfl, h.rep _ (repR_mem hr) rfl⟩⟩
  | none => exact ⟨pk0, 3, by rw [hn]; simp only; rw [if_pos hi], .inr ⟨rfl, rfl⟩⟩
theorem OnceInv.step {s : Nat} {who id : Int} {R : List ((Int × Int) × Pk)} {last : Int → Option Int} (h : OnceInv s who id R last) (f i : Int) (p : Pk) : OnceInv s who id (stR s R last f i p) (stL R last f i) := by
  unfold stR stL
  by_cases hk : (lookS R last f i).2 = 1
  · rw [if_pos hk, if_pos hk]
    refine ⟨addR_len h.len, fun e he hx => ?_, ?_⟩
    · rcases addR_mem he with he | he
      · exact h.rep e he hx
      · exfalso
        subst he
        obtain ⟨rfl, rfl⟩ := Prod.mk.inj hx
        obtain ⟨q, k, hq, hk2⟩ := h.look
        rw [hq] at hk
        simp only at hk
        rcases hk2 with ⟨hk2, _⟩ | ⟨hk2, _⟩ <;> omega
    · obtain ⟨n, hn, hi⟩ := h.last
      rw [setF]
      by_cases hw : who = f
      · rw [if_pos hw]
        refine ⟨i, rfl, ?_⟩
        subst hw
        have h1 := lookS_one hk
        unfold lookS at h1
        cases hr : repR R (who, i) with
        | some q => rw [hr] at h1; cases h1
        | none =>
          rw [hr, hn] at h1
          simp only at h1
          by_cases hin : i ≤ n
          · rw [if_pos hin] at h1; cases h1
          · omega
      · rw [if_neg hw]
        exact ⟨n, hn, hi⟩
  · rw [if_neg hk, if_neg hk]
    exact h

set_option maxRecDepth 100000 in
set_option maxHeartbeats 2000000 in
theorem deduponce_walk (a0 a1 a2 : Int) (A3 : Option Addr) (c3 : Nat) (xs : List Int) (A4 : Option Addr) (c4 : Nat) (ys : List Int) (w : World) (h0 : -9223372036854775808 ≤ a0 ∧ a0 ≤ 9223372036854775807) (h1 : -9223372036854775808 ≤ a1 ∧ a1 ≤ 9223372036854775807) (h2 : -9223372036854775808 ≤ a2 ∧ a2 ≤ 9223372036854775807)
    (hr3 : ReadsInt w .i64 A3 xs.length xs) (hc3 : xs.length ≤ c3) (hl3 : xs.length * 8 ≤ 140737488351232) (hw3 : ∀ x ∈ xs, -9223372036854775808 ≤ x ∧ x ≤ 9223372036854775807) (hr4 : ReadsInt w .i64 A4 ys.length ys) (hc4 : ys.length ≤ c4) (hl4 : ys.length * 8 ≤ 140737488351232) (hw4 : ∀ x ∈ ys, -9223372036854775808 ≤ x ∧ x ≤ 9223372036854775807) :
    Calls Try.prog 3 #[.int .i64 a0, .int .i64 a1, .int .i64 a2, .slice A3 xs.length c3, .slice A4 ys.length c4] w fun e w' => e = .returned (.bool true) ∧ Below w.heap.size w w' := by
  have H0 : Aside0 (In64 a0) := ⟨h0⟩
  have H1 : Aside0 (In64 a1) := ⟨h1⟩
  have H2 : Aside0 (In64 a2) := ⟨h2⟩
  have HR3 := Aside0.mk hr3
  have HR4 := Aside0.mk hr4
  have HW3 := Aside0.mk hw3
  have HW4 := Aside0.mk hw4
  obtain ⟨s, hs⟩ : ∃ s : Nat, max 1 (min a0 8) = (s : Int) := ⟨(max 1 (min a0 8)).toNat, by omega⟩
  have hs1 : 1 ≤ s := by omega
  have hs8 : s ≤ 8 := by omega
  have HS := Aside0.mk hs
  clear h0 h1 h2 hs hr3 hr4 hw3 hw4
  go_enter Try.func3, Try.ntmps3
  go_wp2_with fail
  refine (make_c a0 s _ H0.out HS.out).mono ?_
  rintro e w1 ⟨b, rfl, HC, HB⟩
  go_wp2_with fail
  refine (addNew_c w1 w.heap.size b s [] _ HC a1 a2 H1.out H2.out (pkI 1) ⟨rfl⟩ HB.out.size (by decide) hs1).mono ?_
  rintro e w2 ⟨rfl, HC2, HB2⟩
  replace HB2 := Aside0.mk (HB.out.trans HB2.out)
  have HI2 : Aside0 (OnceInv s a1 a2 (addR s [] ((a1, a2), pkI 1)) (setF (fun _ => none) a1 a2)) := ⟨⟨addR_len (by simp), fun e he _ => by
    rcases addR_mem he with he | he
    · cases he
    · rw [he]; rfl, ⟨a2, by simp [setF], Int.le_refl _⟩⟩⟩
  go_wp2_with fail
  go_loopw [12] (fun u wr => ∃ i : Nat, u = .int .i64 (i : Int) ∧ i ≤ 60 ∧ Aside0 (∃ R last, Cch wr w.heap.size b s R last ∧ OnceInv s a1 a2 R last) ∧ Aside0 (Below w.heap.size w wr)) (fun u _ => 60 - (intOf u).toNat)
  case atStart => exact ⟨0, rfl, by omega, ⟨⟨_, _, HC2.out, HI2.out⟩⟩, HB2⟩
  case round =>
    obtain ⟨i, rfl, hi, HX, HBr⟩ := hrel
    clear HC HB HC2 HI2 HB2
    obtain ⟨R, last, HCr, HIr⟩ := HX.out
    replace HCr := Aside0.mk HCr
    replace HIr := Aside0.mk HIr
    clear HX
    by_cases hlt : i < xs.length ∧ i < ys.length ∧ i < 60
    · obtain ⟨g1, g2, g3⟩ := hlt
      obtain ⟨B3, rfl, k3⟩ := (HR3.out.below HBr.out).at_ (i : Int) (by omega) (by omega)
      obtain ⟨B4, rfl, k4⟩ := (HR4.out.below HBr.out).at_ (i : Int) (by omega) (by omega)
      rw [Int.toNat_natCast] at k3 k4
      obtain ⟨x, hx⟩ : ∃ x, rd xs (i : Int) = x := ⟨_, rfl⟩
      obtain ⟨y, hy⟩ : ∃ y, rd ys (i : Int) = y := ⟨_, rfl⟩
      have HXI : Aside0 (In64 x) := ⟨by
        rw [← hx]
        have h9 := HW3.out (rd xs (i : Int)) (by simp only [rd, Int.toNat_natCast]; rw [List.getD_eq_getElem?_getD, List.getElem?_eq_getElem g1, Option.getD_some]; exact List.getElem_mem _)
        exact h9⟩
      have HYI : Aside0 (In64 y) := ⟨by
        rw [← hy]
        have h9 := HW4.out (rd ys (i : Int)) (by simp only [rd, Int.toNat_natCast]; rw [List.getD_eq_getElem?_getD, List.getElem?_eq_getElem g2, Option.getD_some]; exact List.getElem_mem _)
        exact h9⟩
      rw [hx] at k3
      rw [hy] at k4
      clear hx hy
      have g1' : (i : Int) < (xs.length : Int) := by omega
      have g2' : (i : Int) < (ys.length : Int) := by omega
      have e1 : decide ((i : Int) < (xs.length : Int)) = true := decide_eq_true g1'
      have e2 : decide ((i : Int) < (ys.length : Int)) = true := decide_eq_true g2'
      have e3 : decide (i < xs.length) = true := decide_eq_true g1
      have e4 : decide (i < ys.length) = true := decide_eq_true g2
      have e5 : decide ((i : Int) < 60) = true := decide_eq_true (by omega)
      go_wp2_with fail
      go_still_tail 10, (by kernel_rfl)
      change wpList _ _ _ _ _ wr.drew
      have HCd : Aside0 (Cch wr.drew w.heap.size b s R last) := ⟨HCr.out.below (Below.refl _ _).drew⟩
      have HBd := Aside0.mk HBr.out.drew
      go_wp2_with fail
      refine (add_c wr.drew w.heap.size b s R last HCd x y HXI.out HYI.out (pkI 2) HBd.out.size (by have := HIr.out.len; omega) hs1).mono ?_
      rintro e w3 ⟨r, rfl, _, HC3, HB3⟩
      replace HB3 := Aside0.mk (HBd.out.trans HB3.out)
      have HI3 := Aside0.mk (HIr.out.step x y (pkI 2))
      obtain ⟨R3, hR3⟩ : ∃ R3, stR s R last x y (pkI 2) = R3 := ⟨_, rfl⟩
      obtain ⟨L3, hL3⟩ : ∃ L3, stL R last x y = L3 := ⟨_, rfl⟩
      rw [hR3, hL3] at HC3 HI3
      clear hR3 hL3 HCr HIr HCd HBd
      obtain ⟨p, k, hpk, hk⟩ := HI3.out.look
      have HPK := Aside0.mk hpk
      have HK := Aside0.mk hk
      clear hpk hk
      go_wp2_with fail
      refine (look_c w3 w.heap.size b s R3 L3 HC3 a1 a2 H1.out H2.out p k HPK).mono ?_
      rintro e w4 ⟨rfl, HB4⟩
      have HC4 := Aside0.mk (HC3.out.below HB4.out)
      replace HB4 := Aside0.mk (HB3.out.trans (HB4.out.mono HB3.out.size))
      obtain ⟨p1, p2, p3, p4, p5, p6, p7, p8⟩ := p
      have HC5 := Aside0.mk (HC4.out.below ((Below.refl w4.heap.size w4).alloc (Nat.le_refl _) (.cells #[.int .i64 p1, .int .i64 p2, .int .i64 p3, .int .i64 p4, .int .i64 p5, .string p6, .int .i64 p7, .string p8] 28)))
      have HB5 := Aside0.mk (HB4.out.alloc HB4.out.size (.cells #[.int .i64 p1, .int .i64 p2, .int .i64 p3, .int .i64 p4, .int .i64 p5, .string p6, .int .i64 p7, .string p8] 28))
      have hk := HK.out
      simp only at hk
      unfold pkV
      rcases hk with ⟨rfl, rfl⟩ | ⟨rfl, hp0⟩
      · go_wp2_with fail
        refine (addOld_c _ w.heap.size b s R3 L3 HC5 a1 a2 H1.out H2.out pk0 _ 2 HPK (by decide)).mono ?_
        rintro e w6 ⟨rfl, HB6⟩
        have HC6 := Aside0.mk (HC5.out.below HB6.out)
        replace HB6 := Aside0.mk (HB5.out.trans (HB6.out.mono HB5.out.size))
        go_wp2_with fail
        go_roundw
        case rel => exact ⟨i + 1, by go_num, by omega, ⟨⟨R3, L3, HC6.out, HI3.out⟩⟩, HB6⟩
        case measure => simp [intOf]; omega
      · clear hp0
        go_wp2_with fail
        refine (addOld_c _ w.heap.size b s R3 L3 HC5 a1 a2 H1.out H2.out pk0 _ 3 HPK (by decide)).mono ?_
        rintro e w6 ⟨rfl, HB6⟩
        have HC6 := Aside0.mk (HC5.out.below HB6.out)
        replace HB6 := Aside0.mk (HB5.out.trans (HB6.out.mono HB5.out.size))
        go_wp2_with fail
        go_roundw
        case rel => exact ⟨i + 1, by go_num, by omega, ⟨⟨R3, L3, HC6.out, HI3.out⟩⟩, HB6⟩
        case measure => simp [intOf]; omega
    · by_cases g1 : i < xs.length
      · by_cases g2 : i < ys.length
        · have g3 : ¬ i < 60 := fun h => hlt ⟨g1, g2, h⟩
          obtain rfl : i = 60 := by omega
          clear hlt
          go_wp2_with fail
          all_goals
            refine (awake_any _).mono ?_
            rintro e w6 ⟨rfl, hB6⟩
            have HB6 := Aside0.mk (HBr.out.trans (hB6.mono HBr.out.size))
            clear hB6
            go_wp2
            go_ret
            exact ⟨rfl, HB6.out⟩
        · clear hlt
          go_wp2_with fail
          all_goals
            refine (awake_any _).mono ?_
            rintro e w6 ⟨rfl, hB6⟩
            have HB6 := Aside0.mk (HBr.out.trans (hB6.mono HBr.out.size))
            clear hB6
            go_wp2
            go_ret
            exact ⟨rfl, HB6.out⟩
      · clear hlt
        go_wp2_with fail
        all_goals
          refine (awake_any _).mono ?_
          rintro e w6 ⟨rfl, hB6⟩
          have HB6 := Aside0.mk (HBr.out.trans (hB6.mono HBr.out.size))
          clear hB6
          go_wp2
          go_ret
          exact ⟨rfl, HB6.out⟩
end Go.Proofs.Ytmdkgbbgppiaaaa
