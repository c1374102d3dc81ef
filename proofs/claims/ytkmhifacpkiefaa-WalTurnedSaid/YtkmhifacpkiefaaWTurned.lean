/- The law WalTurned's walk. -/
import Derived.Test.YtkmhifacpkiefaaWCuts
namespace Go.Proofs.Ytkmhifacpkiefaa
set_option linter.unusedVariables false
set_option linter.unusedSimpArgs false
open Go.RowKit Go.Proofs.YtkmhifacpkiefaaW.PrintWords

theorem xor_byte (a b : Nat) (ha : a < 256) (hb : b < 256) : Go.bits .xor .u8 (a : Int) (b : Int) = ((a ^^^ b : Nat) : Int) := by
  have h := Nat.xor_lt_two_pow (n := 8) (x := a) (y := b) (by omega) (by omega)
  show IntKind.u8.wrap ((BitVec.ofInt 8 (a : Int) ^^^ BitVec.ofInt 8 (b : Int)).toNat : Int) = _
  rw [BitVec.ofInt_natCast, BitVec.ofInt_natCast, BitVec.toNat_xor, BitVec.toNat_ofNat, BitVec.toNat_ofNat, Nat.mod_eq_of_lt (by omega), Nat.mod_eq_of_lt (by omega), IntKind.wrap_u8]
  omega
theorem xor_ne (a b : Nat) (h : b ≠ 0) : a ^^^ b ≠ a := by
  intro h1
  refine h ?_
  have : a ^^^ (a ^^^ b) = a ^^^ a := by rw [h1]
  rw [← Nat.xor_assoc, Nat.xor_self, Nat.zero_xor] at this
  exact this

theorem turned_out (A : Option Addr) (n c : Nat) (ts : List (List Int)) (a1 a2 : Int) (w : World) (hr : RowsRd w A ts) (hn : n = ts.length) (h : ¬ Small ts ∨ a2 = 0) :
    Calls Try.prog 4 #[.slice A n c, .int .i64 a1, .int .u8 a2] w fun e w' => e = .returned (.bool true) ∧ Below w.heap.size w w' := by
  have HR := Aside0.mk hr
  have HN := Aside0.mk hn
  clear hr hn
  by_cases h1 : Small ts
  · have h2 : a2 = 0 := by
      rcases h with h | h
      · exact absurd h1 h
      · exact h
    subst h2
    go_enter Try.func4, Try.ntmps4
    go_wp2_with fail
    refine (small_yes A n c ts _ HR.out HN.out h1).mono ?_
    rintro e w1 ⟨rfl, rfl⟩
    go_wp2_with fail
    refine (awake_any _).mono ?_
    rintro e w6 ⟨rfl, hB6⟩
    have HB6 := Aside0.mk hB6
    clear hB6
    go_wp2
    go_ret
    exact ⟨rfl, HB6.out⟩
  · go_enter Try.func4, Try.ntmps4
    go_wp2_with fail
    refine (small_no A n c ts _ HR.out HN.out h1).mono ?_
    rintro e w1 ⟨rfl, rfl⟩
    go_wp2_with fail
    refine (awake_any _).mono ?_
    rintro e w6 ⟨rfl, hB6⟩
    have HB6 := Aside0.mk hB6
    clear hB6
    go_wp2
    go_ret
    exact ⟨rfl, HB6.out⟩

set_option maxHeartbeats 2000000 in
theorem turned_walk (A : Option Addr) (n c : Nat) (ts : List (List Int)) (a1 a2 : Int) (w : World) (hr : RowsRd w A ts) (hn : n = ts.length) (h : Small ts) (hw : ∀ t ∈ ts, ∀ x ∈ t, 0 ≤ x ∧ x ≤ 255) (h2 : 1 ≤ a2 ∧ a2 ≤ 255) :
    Calls Try.prog 4 #[.slice A n c, .int .i64 a1, .int .u8 a2] w fun e w' => e = .returned (.bool true) ∧ Below w.heap.size w w' := by
  have HR := Aside0.mk hr
  have HS := Aside0.mk h
  have HN := Aside0.mk hn
  have HW := Aside0.mk hw
  have hn30 : n ≤ 30 := by rw [hn]; exact h.2
  have hlb := laidB_le ts h
  obtain ⟨by_, rfl⟩ := Int.eq_ofNat_of_zero_le (show 0 ≤ a2 by omega)
  have h20 : ((by_ : Int) == 0) = false := by rw [beq_eq_false_iff_ne]; omega
  have HBY := Aside0.mk (show by_ ≠ 0 ∧ by_ < 256 by omega)
  clear hr h hn hw h2
  go_enter Try.func4, Try.ntmps4
  go_wp2_with fail
  refine (small_yes A n c ts _ HR.out HN.out HS.out).mono ?_
  rintro e w1 ⟨rfl, rfl⟩
  go_wp2_with fail
  go_loop [7] (fun u => ∃ i : Nat, u = .int .i64 (i : Int) ∧ i ≤ n ∧ Aside0 (∀ j, j < i → (ts.getD j []).length ≤ 127)) (fun u => n - (intOf u).toNat)
  case atStart => exact ⟨0, rfl, by omega, ⟨fun j hj => by omega⟩⟩
  case round =>
    obtain ⟨i, rfl, hi, HJ⟩ := hrel
    by_cases hlt : i < n
    · have hits : i < ts.length := by have := HN.out; omega
      obtain ⟨ad, A1, c1, rfl, hcell, hr1, hc1⟩ := HR.out.2 i hits
      obtain ⟨m, hm⟩ : ∃ m, (ts.getD i []).length = m := ⟨_, rfl⟩
      rw [hm] at hcell
      have HM := Aside0.mk hm
      have hm3 : m ≤ 3000 := by rw [← hm]; exact HS.out.1 _ (getD_mem hits)
      clear hr1 hc1 hm
      by_cases hml : 127 < m
      · go_wp2_with fail
        refine (awake_any _).mono ?_
        rintro e w6 ⟨rfl, hB6⟩
        have HB6 := Aside0.mk hB6
        clear hB6
        go_wp2
        go_ret
        exact ⟨rfl, HB6.out⟩
      · go_wp2
        go_round
        case rel =>
          refine ⟨i + 1, by go_num, by omega, ⟨fun j hj => ?_⟩⟩
          rcases Nat.lt_or_ge j i with h | h
          · exact HJ.out j h
          · obtain rfl : j = i := by omega
            rw [HM.out]
            omega
        case measure => simp [intOf]; omega
    · have H127 := Aside0.mk (show ∀ t ∈ ts, t.length ≤ 127 by
        intro t ht
        obtain ⟨j, hj, rfl⟩ := List.mem_iff_getElem.1 ht
        have := HJ.out j (by have := HN.out; omega)
        rwa [List.getD_eq_getElem?_getD, List.getElem?_eq_getElem hj] at this)
      clear HJ
      go_wp2_with fail
      refine (laid_any A n c ts _ HR.out HN.out HS.out HW.out).mono ?_
      rintro e w1 ⟨A1, c1, A2, c2, bs, es, rfl, hbs, hes, ho1, ho2, hB1⟩
      have hbl : bs.length ≤ 90420 := by rw [hbs.out]; exact hlb
      have HR2 := Aside0.mk (own_reads' ho2.out)
      have HBF := Aside0.mk (show bs = flat (ne ts) by rw [hbs.out, laidB_flat])
      have HBW := Aside0.mk (show ∀ x ∈ bs, 0 ≤ x ∧ x ≤ 255 by rw [hbs.out]; exact laid_bytes ts HW.out)
      have HEF := Aside0.mk (show es = endsF 0 (ne ts) from hes.out)
      have HM := Aside0.mk (show (ne ts).length = es.length by rw [hes.out, endsB_length])
      have HBO := Aside0.mk (ne_body ts HS.out)
      have hm30 : es.length ≤ 30 := by rw [← HM.out]; have h1 := ne_le ts; have h2 := HN.out; omega
      by_cases hz : bs.length = 0
      · have hez : es.length = 0 := by
          have h1 := flat_length_ge (ne ts) HBO.out
          rw [← HBF.out, HM.out, hz] at h1
          omega
        have HZ := Aside0.mk hz
        have HEZ := Aside0.mk hez
        have hz1 : ((bs.length : Int) == 0) = true := by rw [beq_iff_eq]; omega
        have hz2 : ((es.length : Int) == 0) = true := by rw [beq_iff_eq]; omega
        clear hz hez
        go_wp2_with fail
        refine (awake_any _).mono ?_
        rintro e w6 ⟨rfl, hB6⟩
        have HB6 := Aside0.mk hB6
        clear hB6
        go_wp2
        go_ret
        exact ⟨rfl, hB1.out.trans (HB6.out.mono hB1.out.size)⟩
      · have hz1 : ((bs.length : Int) == 0) = false := by rw [beq_eq_false_iff_ne]; omega
        obtain ⟨g, cap, hv, hgb, hgl⟩ := ho1.out.form (by omega)
        simp only [Value.slice.injEq] at hv
        obtain ⟨rfl, _, rfl⟩ := hv
        go_wp2_with fail
        refine (place_new a1 _ _ (by omega) (by omega)).mono ?_
        rintro e w2 ⟨k, rfl, hk, rfl⟩
        have hkb : k < bs.length := by omega
        obtain ⟨m, hm⟩ : ∃ m, es.length = m := ⟨_, rfl⟩
        obtain ⟨L, hL⟩ : ∃ L, bs.length = L := ⟨_, rfl⟩
        have HO1 := Aside0.mk ho1.out
        have hO1' := ho1.out
        rw [hm] at HM hm30 HR2
        rw [hL] at hkb hbl hO1' hz1
        have HO1L := Aside0.mk hO1'
        rw [hm, hL]
        have HL := Aside0.mk hL
        have HEL := Aside0.mk hm
        clear hm hL hO1' hz hk
        go_wp2_with fail
        go_loop [11, 12] (fun x y => ∃ (i q : Nat), x = .int .i64 (i : Int) ∧ y = .int .i64 (q : Int) ∧ i ≤ m ∧ q ≤ k ∧ Aside0 (q = (flat ((ne ts).take i)).length)) (fun x _ => m - (intOf x).toNat)
        case atStart => exact ⟨0, 0, rfl, rfl, by omega, by omega, ⟨by simp [flat]⟩⟩
        case round =>
          obtain ⟨i, q, rfl, rfl, hi, hq, HQ⟩ := hrel
          have hlt : i < m := by
            rcases Nat.lt_or_ge i m with h | h
            · exact h
            · have h1 := HQ.out
              rw [List.take_of_length_le (by rw [HM.out]; exact h), ← HBF.out, HL.out] at h1
              omega
          obtain ⟨ad, rfl, hcell⟩ := HR2.out.at_ (i : Int) (by omega) (by omega)
          rw [Int.toNat_natCast] at hcell
          obtain ⟨z, hz⟩ : ∃ z, (flat ((ne ts).take (i + 1))).length = z := ⟨_, rfl⟩
          have hrd : rd es (i : Int) = (z : Int) := by
            have h1 := ends_at (ne ts) 0 i (by rw [HM.out]; exact hlt)
            rw [← HEF.out, Nat.zero_add, hz] at h1
            unfold rd
            rw [Int.toNat_natCast]
            exact h1
          rw [hrd] at hcell
          have HZ := Aside0.mk hz
          have HZL := Aside0.mk (show z ≤ L by rw [← hz, ← HL.out, HBF.out]; exact flat_take_le _ _)
          have hzl := HZL.out
          clear hrd hz
          by_cases hle : z ≤ k
          · go_wp2
            go_round
            case rel => exact ⟨i + 1, z, by go_num, rfl, by omega, hle, ⟨HZ.out.symm⟩⟩
            case measure => simp [intOf]; omega
          · by_cases hkq : k = q
            · have hb : ((k : Int) == (q : Int)) = true := by rw [beq_iff_eq]; omega
              have HKQ := Aside0.mk hkq
              clear hkq
              go_wp2_with fail
              refine (awake_any _).mono ?_
              rintro e w6 ⟨rfl, hB6⟩
              have HB6 := Aside0.mk hB6
              clear hB6
              go_wp2
              go_ret
              exact ⟨rfl, hB1.out.trans (HB6.out.mono hB1.out.size)⟩
            · have hb : ((k : Int) == (q : Int)) = false := by rw [beq_eq_false_iff_ne]; omega
              obtain ⟨hca, hfa⟩ := own_at HO1L.out (k : Int) (by omega) (by omega)
              rw [Int.toNat_natCast] at hca hfa
              have hbx := rd_byte bs HBW.out k
              obtain ⟨x, hx⟩ : ∃ x : Nat, rd bs (k : Int) = (x : Int) := ⟨_, (Int.toNat_of_nonneg hbx.1).symm⟩
              rw [hx] at hca hbx
              have hxb : x < 256 := by omega
              have hst := own_store HO1.out (k : Int) (Go.bits .xor .u8 (x : Int) (by_ : Int))
              rw [Int.toNat_natCast] at hst
              have HST := Aside0.mk (own_reads' hst.1)
              have HSTB := Aside0.mk (show Below w.heap.size w (w1.setCell ⟨g, k, none⟩ (.int .u8 (Go.bits .xor .u8 (x : Int) (by_ : Int)))) from hB1.out.setCell hgb _)
              have HREC := Aside0.mk (show recsF ((bs.set k (Go.bits .xor .u8 (x : Int) (by_ : Int))).length + 1) (bs.set k (Go.bits .xor .u8 (x : Int) (by_ : Int))) 0 = ((ne ts).take i, q) by
                have hxx := Nat.xor_lt_two_pow (n := 8) (x := x) (y := by_) (by omega) (by have := HBY.out.2; omega)
                rw [xor_byte x by_ hxb HBY.out.2]
                have h1 := turn_law (ne ts) HBO.out (fun t ht => H127.out t ((List.mem_filter.1 ht).1)) (fun t ht => HW.out t ((List.mem_filter.1 ht).1)) i k (by rw [HM.out]; exact hlt) (by rw [← HQ.out]; omega) (by rw [HZ.out]; omega)
                  ((x ^^^ by_ : Nat) : Int) (by omega) (by
                    rw [← HBF.out]
                    have h2 : bs.getD k 0 = (x : Int) := by rw [← hx]; unfold rd; rw [Int.toNat_natCast]
                    rw [h2]
                    intro h3
                    exact xor_ne x by_ HBY.out.1 (by omega))
                rw [← HBF.out, ← HQ.out] at h1
                exact h1)
              have HBW2 := Aside0.mk (show ∀ y ∈ bs.set k (Go.bits .xor .u8 (x : Int) (by_ : Int)), 0 ≤ y ∧ y ≤ 255 by
                have hxx := Nat.xor_lt_two_pow (n := 8) (x := x) (y := by_) (by omega) (by have := HBY.out.2; omega)
                rw [xor_byte x by_ hxb HBY.out.2]
                intro y hy
                rcases List.mem_or_eq_of_mem_set hy with h | h
                · exact HBW.out y h
                · rw [h]; omega)
              have HMI := Aside0.mk (show ((ne ts).take i).length = i by rw [List.length_take, HM.out]; omega)
              have HLE := Aside0.mk (own_le HO1L.out)
              clear hx hbx hst
              go_wp2_with fail
              refine (records_new (some ⟨g, 0, none⟩) _ c1 (bs.set k (Go.bits .xor .u8 (x : Int) (by_ : Int))) _ (by rw [List.length_set, HL.out]) ⟨by have h1 := HST.out; rw [HL.out] at h1; exact h1⟩ HLE.out (by omega) HBW2.out ((ne ts).take i) q i HREC HMI (by omega)).mono ?_
              rintro e w3 ⟨A4, c4, rfl, HRO, hB3⟩
              have HB3 := Aside0.mk (HSTB.out.trans (hB3.out.mono HSTB.out.size))
              go_wp2_with fail
              refine (awake_any _).mono ?_
              rintro e w6 ⟨rfl, hB6⟩
              have HB6 := Aside0.mk hB6
              clear hB6
              go_wp2
              go_ret
              exact ⟨rfl, HB3.out.trans (HB6.out.mono HB3.out.size)⟩

theorem turned_law (A : Option Addr) (n c : Nat) (ts : List (List Int)) (a1 a2 : Int) (w : World) (hr : RowsRd w A ts) (hn : n = ts.length) (hw : ∀ t ∈ ts, ∀ x ∈ t, 0 ≤ x ∧ x ≤ 255) (ha : -9223372036854775808 ≤ a1 ∧ a1 ≤ 9223372036854775807) (ha2 : 0 ≤ a2 ∧ a2 ≤ 255) :
    Calls Try.prog 4 #[.slice A n c, .int .i64 a1, .int .u8 a2] w fun e w' => e = .returned (.bool true) ∧ Below w.heap.size w w' := by
  by_cases h : Small ts ∧ a2 ≠ 0
  · exact turned_walk A n c ts a1 a2 w hr hn h.1 hw (by omega)
  · exact turned_out A n c ts a1 a2 w hr hn (by
      by_cases h1 : Small ts
      · exact .inr (Classical.byContradiction fun h2 => h ⟨h1, h2⟩)
      · exact .inl h1)
end Go.Proofs.Ytkmhifacpkiefaa
