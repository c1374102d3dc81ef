/- The reference's Name; the law RunesAll. -/
import Derived.Test.YtabcaeckoghmpaaDoorPRefAll
import Derived.Test.YtabcaeckoghmpaaDoorRKey
namespace Go.Proofs.YtabcaeckoghmpaaDoor
set_option linter.unusedVariables false
set_option linter.unusedSimpArgs false
open Go.RowKit Go.Proofs.YtabcaeckoghmpaaDoorW.PrintWords

theorem chk_drop (l : List Nat) (i : Nat) (h : i < l.length) : chk false (l.drop i) = ((letterF ((l.getD i 0 : Nat) : Int) || digitF ((l.getD i 0 : Nat) : Int)) && chk false (l.drop (i + 1))) := by
  rw [List.drop_eq_getElem_cons h, chk, List.getD_eq_getElem?_getD, List.getElem?_eq_getElem h]
  rfl

set_option maxRecDepth 100000 in
set_option maxHeartbeats 1000000 in
theorem rname_run (s : ByteArray) (w : World) (hs : s.size ≤ 2097152) (l : List Nat) (hl : Aside0 (runesG s = some l)) (h1 : 1 ≤ l.length) (h2 : l.length ≤ 20) (hf : Aside0 (letterF ((l.getD 0 0 : Nat) : Int) = true)) (hk : Aside0 (keyF s = false)) (v : Bool) (hv : Aside0 (chk false (l.drop 1) = v)) :
    Calls Tryd.prog 31 #[.string s] w fun e w' => e = .returned (.bool v) ∧ Below w.heap.size w w' := by
  go_enter Tryd.func31, Tryd.ntmps31
  go_wp2_with fail
  refine (rall_any s _ hs).mono ?_
  rintro e w1 ⟨v1, l', ok, rfl, hok, ho, hB⟩
  obtain ⟨rfl, rfl⟩ : ok = true ∧ l' = l := by
    rcases hok.out with ⟨e1, e2⟩ | ⟨e1, e2, e3⟩
    · rw [hl.out] at e2; exact ⟨e1, (Option.some.inj e2).symm⟩
    · rw [hl.out] at e2; cases e2
  obtain ⟨A, c2, rfl, hr⟩ := own_reads ho.out
  obtain ⟨m, hm⟩ : ∃ m, l'.length = m := ⟨_, rfl⟩
  rw [ints_length, hm] at hr
  rw [ints_length, hm]
  rw [hm] at h1 h2
  have HR := Aside0.mk hr
  have HM := Aside0.mk hm
  clear hr hm hok
  obtain ⟨ad, rfl, hcell⟩ := HR.out.at_ ((0 : Nat) : Int) (by omega) (by omega)
  rw [Int.toNat_natCast, ints_at] at hcell
  obtain ⟨r0, hr0⟩ : ∃ r, l'.getD 0 0 = r := ⟨_, rfl⟩
  rw [hr0] at hcell hf
  have hcell0 := hcell
  rw [show ad.add 0 = ad from if_pos rfl] at hcell0
  have HR0 := Aside0.mk hr0
  have d1 : decide (m < 1) = false := decide_eq_false (by omega)
  have d2 : decide (20 < m) = false := decide_eq_false (by omega)
  have d3 : decide ((m : Int) < 1) = false := decide_eq_false (by omega)
  have d4 : decide (20 < (m : Int)) = false := decide_eq_false (by omega)
  have hm0 : 0 < m := by omega
  clear hr0
  go_wp2_with fail
  refine (rletter_any (r0 : Int) _ true hf).mono ?_
  rintro e w2 ⟨rfl, rfl⟩
  go_wp2_with fail
  refine (rkey_any s _ false hk).mono ?_
  rintro e w3 ⟨rfl, rfl⟩
  clear hcell hcell0
  go_wp2_with fail
  go_loop [5] (fun u => ∃ i : Nat, u = .int .i64 (i : Int) ∧ 1 ≤ i ∧ i ≤ m ∧ Aside0 (chk false (l'.drop i) = v)) (fun u => m - (intOf u).toNat)
  case atStart => exact ⟨1, rfl, by omega, h1, hv⟩
  case round =>
    obtain ⟨i, rfl, hi1, hi, HV⟩ := hrel
    by_cases hlt : i < m
    · obtain ⟨_, e1, hcell⟩ := HR.out.at_ ((i : Nat) : Int) (by omega) (by omega)
      cases e1
      rw [Int.toNat_natCast, ints_at] at hcell
      obtain ⟨r, hr⟩ : ∃ r, l'.getD i 0 = r := ⟨_, rfl⟩
      rw [hr] at hcell
      obtain ⟨c1, H1⟩ : ∃ b, Aside0 (letterF (r : Int) = b) := ⟨_, ⟨rfl⟩⟩
      obtain ⟨c2', H2⟩ : ∃ b, Aside0 (digitF (r : Int) = b) := ⟨_, ⟨rfl⟩⟩
      have hst := HV.out
      rw [chk_drop l' i (by rw [HM.out]; exact hlt), hr, H1.out, H2.out] at hst
      have HST := Aside0.mk hst
      clear hr hst
      go_wp2_with fail
      refine (rletter_any (r : Int) _ c1 H1).mono ?_
      rintro e w2 ⟨rfl, rfl⟩
      cases c1 with
      | true =>
        go_wp2
        go_round
        case rel => exact ⟨i + 1, by go_num, by omega, by omega, ⟨by have h := HST.out; rw [Bool.true_or, Bool.true_and] at h; exact h⟩⟩
        case measure => simp [intOf]; omega
      | false =>
        go_wp2_with fail
        refine (rdigit_any (r : Int) _ c2' H2).mono ?_
        rintro e w2 ⟨rfl, rfl⟩
        cases c2' with
        | true =>
          go_wp2
          go_round
          case rel => exact ⟨i + 1, by go_num, by omega, by omega, ⟨by have h := HST.out; rw [Bool.or_true, Bool.true_and] at h; exact h⟩⟩
          case measure => simp [intOf]; omega
        | false =>
          have hvf : v = false := by have h := HST.out; rw [← h]; rfl
          subst hvf
          go_wp2
          go_ret
          exact ⟨rfl, hB.out⟩
    · have hvt : v = true := by
        have h := HV.out
        rw [List.drop_eq_nil_of_le (by rw [HM.out]; omega)] at h
        rw [← h]
        rfl
      subst hvt
      go_wp2
      go_ret
      exact ⟨rfl, hB.out⟩

theorem rname_none (s : ByteArray) (w : World) (hs : s.size ≤ 2097152) (hl : Aside0 (runesG s = none)) :
    Calls Tryd.prog 31 #[.string s] w fun e w' => e = .returned (.bool false) ∧ Below w.heap.size w w' := by
  go_enter Tryd.func31, Tryd.ntmps31
  go_wp2_with fail
  refine (rall_any s _ hs).mono ?_
  rintro e w1 ⟨v1, l', ok, rfl, hok, ho, hB⟩
  obtain rfl : ok = false := by
    rcases hok.out with ⟨e1, e2⟩ | ⟨e1, e2, e3⟩
    · rw [hl.out] at e2; cases e2
    · exact e1
  obtain ⟨A, c2, rfl, hr⟩ := own_reads ho.out
  clear hr
  go_wp2
  go_ret
  exact ⟨rfl, hB.out⟩

theorem rname_len (s : ByteArray) (w : World) (hs : s.size ≤ 2097152) (l : List Nat) (hl : Aside0 (runesG s = some l)) (h : l.length < 1 ∨ 20 < l.length) :
    Calls Tryd.prog 31 #[.string s] w fun e w' => e = .returned (.bool false) ∧ Below w.heap.size w w' := by
  go_enter Tryd.func31, Tryd.ntmps31
  go_wp2_with fail
  refine (rall_any s _ hs).mono ?_
  rintro e w1 ⟨v1, l', ok, rfl, hok, ho, hB⟩
  obtain ⟨rfl, rfl⟩ : ok = true ∧ l' = l := by
    rcases hok.out with ⟨e1, e2⟩ | ⟨e1, e2, e3⟩
    · rw [hl.out] at e2; exact ⟨e1, (Option.some.inj e2).symm⟩
    · rw [hl.out] at e2; cases e2
  obtain ⟨A, c2, rfl, hr⟩ := own_reads ho.out
  obtain ⟨m, hm⟩ : ∃ m, l'.length = m := ⟨_, rfl⟩
  rw [ints_length, hm]
  rw [hm] at h
  have hmx : m ≤ 9223372036854775807 := by have h1 := hr.2.1; rw [ints_length, hm] at h1; exact h1
  clear hr hm
  by_cases h1 : m < 1
  · clear h
    go_wp2
    go_ret
    exact ⟨rfl, hB.out⟩
  · have h2 : 20 < m := by omega
    clear h
    go_wp2
    go_ret
    exact ⟨rfl, hB.out⟩

set_option maxHeartbeats 1000000 in
theorem rname_bad (s : ByteArray) (w : World) (hs : s.size ≤ 2097152) (l : List Nat) (hl : Aside0 (runesG s = some l)) (h1 : 1 ≤ l.length) (h2 : l.length ≤ 20) (c1 : Bool) (hf : Aside0 (letterF ((l.getD 0 0 : Nat) : Int) = c1)) (c2 : Bool) (hk : Aside0 (keyF s = c2)) (hb : c1 = false ∨ c2 = true) :
    Calls Tryd.prog 31 #[.string s] w fun e w' => e = .returned (.bool false) ∧ Below w.heap.size w w' := by
  go_enter Tryd.func31, Tryd.ntmps31
  go_wp2_with fail
  refine (rall_any s _ hs).mono ?_
  rintro e w1 ⟨v1, l', ok, rfl, hok, ho, hB⟩
  obtain ⟨rfl, rfl⟩ : ok = true ∧ l' = l := by
    rcases hok.out with ⟨e1, e2⟩ | ⟨e1, e2, e3⟩
    · rw [hl.out] at e2; exact ⟨e1, (Option.some.inj e2).symm⟩
    · rw [hl.out] at e2; cases e2
  obtain ⟨A, c3, rfl, hr⟩ := own_reads ho.out
  obtain ⟨m, hm⟩ : ∃ m, l'.length = m := ⟨_, rfl⟩
  rw [ints_length, hm] at hr
  rw [ints_length, hm]
  rw [hm] at h1 h2
  have HR := Aside0.mk hr
  clear hr hm hok
  obtain ⟨ad, rfl, hcell⟩ := HR.out.at_ ((0 : Nat) : Int) (by omega) (by omega)
  rw [Int.toNat_natCast, ints_at] at hcell
  obtain ⟨r0, hr0⟩ : ∃ r, l'.getD 0 0 = r := ⟨_, rfl⟩
  rw [hr0] at hcell hf
  have hcell0 := hcell
  rw [show ad.add 0 = ad from if_pos rfl] at hcell0
  have d1 : decide (m < 1) = false := decide_eq_false (by omega)
  have d2 : decide (20 < m) = false := decide_eq_false (by omega)
  have d3 : decide ((m : Int) < 1) = false := decide_eq_false (by omega)
  have d4 : decide (20 < (m : Int)) = false := decide_eq_false (by omega)
  have hm0 : 0 < m := by omega
  clear hr0
  go_wp2_with fail
  refine (rletter_any (r0 : Int) _ c1 hf).mono ?_
  rintro e w2 ⟨rfl, rfl⟩
  cases c1 with
  | false =>
    clear hb
    go_wp2
    go_ret
    exact ⟨rfl, hB.out⟩
  | true =>
    obtain rfl : c2 = true := by
      rcases hb with h | h
      · cases h
      · exact h
    clear hb
    go_wp2_with fail
    refine (rkey_any s _ true hk).mono ?_
    rintro e w3 ⟨rfl, rfl⟩
    go_wp2
    go_ret
    exact ⟨rfl, hB.out⟩

theorem rname_any (s : ByteArray) (w : World) (hs : s.size ≤ 2097152) (v : Bool) (hv : Aside0 (nameG s = v)) :
    Calls Tryd.prog 31 #[.string s] w fun e w' => e = .returned (.bool v) ∧ Below w.heap.size w w' := by
  have h := hv.out
  rw [nameG] at h
  cases hl : runesG s with
  | none =>
    rw [hl] at h
    subst h
    exact rname_none s w hs ⟨hl⟩
  | some l =>
    rw [hl] at h
    simp only at h
    by_cases h1 : 1 ≤ l.length
    · by_cases h2 : l.length ≤ 20
      · rw [decide_eq_true h1, decide_eq_true h2, Bool.true_and, Bool.true_and] at h
        have hc : chk true l = (letterF ((l.getD 0 0 : Nat) : Int) && chk false (l.drop 1)) := by
          cases l with
          | nil => simp at h1
          | cons r l => rfl
        rw [hc] at h
        cases hk : keyF s with
        | true =>
          rw [hk] at h
          subst h
          exact rname_bad s w hs l ⟨hl⟩ h1 h2 _ ⟨rfl⟩ _ ⟨hk⟩ (.inr rfl)
        | false =>
          rw [hk] at h
          cases hf : letterF ((l.getD 0 0 : Nat) : Int) with
          | false =>
            rw [hf] at h
            subst h
            exact rname_bad s w hs l ⟨hl⟩ h1 h2 _ ⟨hf⟩ _ ⟨hk⟩ (.inl rfl)
          | true =>
            rw [hf] at h
            exact rname_run s w hs l ⟨hl⟩ h1 h2 ⟨hf⟩ ⟨hk⟩ v ⟨by rw [← h]; rfl⟩
      · rw [decide_eq_false h2, Bool.false_and, Bool.and_false] at h
        subst h
        exact rname_len s w hs l ⟨hl⟩ (.inr (by omega))
    · rw [decide_eq_false h1, Bool.false_and] at h
      subst h
      exact rname_len s w hs l ⟨hl⟩ (.inl (by omega))

end Go.Proofs.YtabcaeckoghmpaaDoor
