/- vint.Get: the number at a place. -/
import Derived.Test.YtabcaeckoghmpaaDoorVPut
namespace Go.Proofs.YtabcaeckoghmpaaDoor
set_option linter.unusedVariables false
set_option linter.unusedSimpArgs false
open Go.RowKit Go.Proofs.YtabcaeckoghmpaaDoorW.PrintWords

/-- Reading a number: i bytes have been read, v is their value. -/
def getL (a : Int) : List Int → Nat → Int → Int × Int × Int
  | [], _, _ => (0, 0, 2)
  | x :: r, i, v => if i = 9 ∧ x > 1 then (0, 0, 3) else if x ≥ 128 then getL a r (i + 1) (v + x % 128 * 2 ^ (7 * i)) else if x = 0 ∧ 0 < i then (0, 0, 3) else (v + x % 128 * 2 ^ (7 * i), a + i + 1, 0)

def getF (xs : List Int) (a : Int) : Int × Int × Int := if a < 0 ∨ xs.length < a then (0, 0, 1) else getL a (xs.drop a.toNat) 0 0

theorem getL_step (a : Int) (xs : List Int) (p i : Nat) (V x : Int) (hp : p < xs.length) (hx : xs.getD p 0 = x) :
    getL a (xs.drop p) i V = if i = 9 ∧ x > 1 then (0, 0, 3) else if x ≥ 128 then getL a (xs.drop (p + 1)) (i + 1) (V + x % 128 * 2 ^ (7 * i)) else if x = 0 ∧ 0 < i then (0, 0, 3) else (V + x % 128 * 2 ^ (7 * i), a + i + 1, 0) := by
  have e : xs.drop p = x :: xs.drop (p + 1) := by
    rw [List.drop_eq_getElem_cons hp]
    congr 1
    rw [← hx, List.getD_eq_getElem?_getD, List.getElem?_eq_getElem hp]
    rfl
  rw [e, getL]

theorem getL_end (a : Int) (xs : List Int) (p i : Nat) (V : Int) (hp : xs.length ≤ p) : getL a (xs.drop p) i V = (0, 0, 2) := by
  rw [List.drop_of_length_le hp, getL]

theorem rd_mid (xs : List Int) (a m i : Nat) (h : i < m) : rd ((xs.drop a).take m) (i : Int) = xs.getD (a + i) 0 := by
  unfold rd
  rw [Int.toNat_natCast, List.getD_eq_getElem?_getD, List.getElem?_take, if_pos h, List.getElem?_drop, List.getD_eq_getElem?_getD]

theorem getD_byte (xs : List Int) (hw : ∀ x ∈ xs, 0 ≤ x ∧ x ≤ 255) (i : Nat) : 0 ≤ xs.getD i 0 ∧ xs.getD i 0 ≤ 255 := by
  rw [List.getD_eq_getElem?_getD]
  rcases Nat.lt_or_ge i xs.length with h | h
  · rw [List.getElem?_eq_getElem h]
    exact hw _ (List.getElem_mem h)
  · rw [List.getElem?_eq_none h]
    simp

theorem vget_out (A : Option Addr) (c : Nat) (xs : List Int) (a : Int) (w : World) (h : a < 0 ∨ xs.length < a) :
    Calls Tryd.prog 25 #[.slice A xs.length c, .int .i64 a] w fun e w' => e = .returned (.tuple #[.int .u64 0, .int .i64 0, .int .i64 1]) ∧ w = w' := by
  by_cases h0 : a < 0
  · go_enter Tryd.func25, Tryd.ntmps25
    go_wp2
    go_ret3
    exact ⟨rfl, rfl⟩
  · have h1 : xs.length < a := by omega
    go_enter Tryd.func25, Tryd.ntmps25
    go_wp2
    go_ret3
    exact ⟨rfl, rfl⟩

theorem vget_in (A : Option Addr) (c : Nat) (xs : List Int) (a m : Nat) (w : World) (hr : ReadsInt w .u8 A xs.length xs) (hc : xs.length ≤ c) (h : a ≤ xs.length) (hm : (xs.length - a ≤ 10 ∧ m = xs.length - a) ∨ 10 < xs.length - a ∧ m = 10) (hw : ∀ x ∈ xs, 0 ≤ x ∧ x ≤ 255) :
    Calls Tryd.prog 25 #[.slice A xs.length c, .int .i64 (a : Int)] w fun e w' => e = .returned (.tuple #[.int .u64 (getL a (xs.drop a) 0 0).1, .int .i64 (getL a (xs.drop a) 0 0).2.1, .int .i64 (getL a (xs.drop a) 0 0).2.2]) ∧ w = w' := by
  have hn := hr.2.1
  obtain ⟨i0, hi, _, hsz, _⟩ := info_parts info5
  obtain ⟨A', hcut, hr'⟩ := mid_int (P := Tryd.prog) (k := .u8) 24 5 Tryd.underlying24 hi hsz A c xs a (a + m) (by omega) (by omega) hc
  have HR := Aside0.mk (hr' w hr)
  clear hr' hr hi hsz
  simp only [Nat.add_sub_cancel_left] at HR hcut
  rcases hm with ⟨h1, hm⟩ | ⟨h1, hm⟩
  all_goals
    have hm1 : m ≤ 10 := by omega
    have hm2 : a + m ≤ xs.length := by omega
    have HM := Aside0.mk hm
    first
    | have hcut' := fun W => hcut W (a : Int) ((a : Int) + ((xs.length : Int) - (a : Int))) rfl (by omega)
    | have hcut' := fun W => hcut W (a : Int) ((a : Int) + 10) rfl (by omega)
    clear hm hcut
    have HW := Aside0.mk hw
    clear hw
    go_enter Tryd.func25, Tryd.ntmps25
    go_wp2_with fail
    go_loop [7, 29] (fun t u => ∃ (V : Int) (i : Nat), t = .int .u64 V ∧ u = .int .i64 i ∧ i ≤ m ∧ i ≤ 9 ∧ 0 ≤ V ∧ Aside0 (V < 2 ^ (7 * i)) ∧ Aside0 (getL a (xs.drop (a + i)) i V = getL a (xs.drop a) 0 0)) (fun _ u => m - (intOf u).toNat)
    case atStart => exact ⟨0, 0, rfl, rfl, by omega, by omega, by omega, ⟨by decide⟩, ⟨rfl⟩⟩
    case round =>
      obtain ⟨V, i, rfl, rfl, him, hi9, hV0, HV, HG⟩ := hrel
      by_cases hlt : i < m
      · obtain ⟨ad, rfl, hcell⟩ := HR.out.at_ i (by omega) (by omega)
        rw [Int.toNat_natCast] at hcell
        obtain ⟨x, hx⟩ : ∃ x, rd ((xs.drop a).take m) i = x := ⟨_, rfl⟩
        rw [hx] at hcell
        rw [rd_mid xs a m i hlt] at hx
        have hb := getD_byte xs HW.out (a + i)
        rw [hx] at hb
        obtain ⟨hb0, hb1⟩ := hb
        have HS := Aside0.mk (getL_step a xs (a + i) i V x (by omega) hx)
        clear hx
        by_cases h9 : i = 9
        · have h9' : ((i : Int) == 9) = true := by rw [beq_iff_eq]; omega
          have H9 := Aside0.mk h9
          clear h9
          by_cases hx1 : 1 < x
          · go_wp2
            go_ret3
            rw [← HG.out, HS.out, if_pos ⟨H9.out, hx1⟩]
            exact ⟨rfl, rfl⟩
          · have ho := Aside0.mk (or_shift V x i hV0 HV.out hb0 hb1 (.inr ⟨H9.out, by omega⟩))
            have h128 : ¬ 128 ≤ x := by omega
            by_cases hx0 : x = 0
            · have hx0' : (x == 0) = true := by rw [beq_iff_eq]; exact hx0
              have hi0 : 0 < i := by have := H9.out; omega
              have HX := Aside0.mk hx0
              clear hx0
              go_wp2
              go_ret3
              rw [← HG.out, HS.out, if_neg (by omega), if_neg (by omega), if_pos ⟨HX.out, hi0⟩]
              exact ⟨rfl, rfl⟩
            · have hx0' : (x == 0) = false := by rw [beq_eq_false_iff_ne]; exact hx0
              go_wp2
              go_ret3
              rw [← HG.out, HS.out, if_neg (by omega), if_neg (by omega), if_neg (by omega), ho.out]
              exact ⟨rfl, rfl⟩
        · have h9' : ((i : Int) == 9) = false := by rw [beq_eq_false_iff_ne]; omega
          have ho := Aside0.mk (or_shift V x i hV0 HV.out hb0 hb1 (.inl (by omega)))
          by_cases hx : 128 ≤ x
          · go_wp2
            go_round
            case rel =>
              rw [ho.out]
              refine ⟨_, i + 1, rfl, by go_num, by omega, by omega, ?_, ⟨?_⟩, ⟨?_⟩⟩
              · have : 0 ≤ x % 128 * 2 ^ (7 * i) := Int.mul_nonneg (by omega) (Int.le_of_lt (Int.pow_pos (by omega)))
                omega
              · have h1 := HV.out
                have h2 : x % 128 * 2 ^ (7 * i) ≤ 127 * 2 ^ (7 * i) := Int.mul_le_mul_of_nonneg_right (by omega) (Int.le_of_lt (Int.pow_pos (by omega)))
                have h3 : (2 : Int) ^ (7 * (i + 1)) = 2 ^ (7 * i) * 128 := by rw [Nat.mul_add, Int.pow_add]; rfl
                omega
              · rw [← HG.out, HS.out, if_neg (by omega), if_pos hx, Nat.add_assoc]
            case measure => simp [intOf]; omega
          · by_cases hx0 : x = 0
            · have hx0' : (x == 0) = true := by rw [beq_iff_eq]; exact hx0
              have HX := Aside0.mk hx0
              clear hx0
              by_cases hi0 : 0 < i
              · go_wp2
                go_ret3
                rw [← HG.out, HS.out, if_neg (by omega), if_neg (by omega), if_pos ⟨HX.out, hi0⟩]
                exact ⟨rfl, rfl⟩
              · go_wp2
                go_ret3
                rw [← HG.out, HS.out, if_neg (by omega), if_neg (by omega), if_neg (by omega), ho.out]
                exact ⟨rfl, rfl⟩
            · have hx0' : (x == 0) = false := by rw [beq_eq_false_iff_ne]; exact hx0
              go_wp2
              go_ret3
              rw [← HG.out, HS.out, if_neg (by omega), if_neg (by omega), if_neg (by omega), ho.out]
              exact ⟨rfl, rfl⟩
      · go_wp2
        go_ret3
        rw [← HG.out]
        have hi : i = m := by omega
        rw [getL_end _ _ _ _ _ (by have := HM.out; omega)]
        exact ⟨rfl, rfl⟩

/-- What Get tells, at any place. -/
theorem vget_any (A : Option Addr) (c : Nat) (xs : List Int) (a : Int) (w : World) (hr : ReadsInt w .u8 A xs.length xs) (hc : xs.length ≤ c) (hw : ∀ x ∈ xs, 0 ≤ x ∧ x ≤ 255) :
    Calls Tryd.prog 25 #[.slice A xs.length c, .int .i64 a] w fun e w' => e = .returned (.tuple #[.int .u64 (getF xs a).1, .int .i64 (getF xs a).2.1, .int .i64 (getF xs a).2.2]) ∧ w = w' := by
  unfold getF
  by_cases h : a < 0 ∨ xs.length < a
  · rw [if_pos h]
    exact vget_out A c xs a w h
  · rw [if_neg h]
    obtain ⟨n, rfl⟩ := Int.eq_ofNat_of_zero_le (show 0 ≤ a by omega)
    rw [Int.toNat_natCast]
    rcases Nat.lt_or_ge 10 (xs.length - n) with h1 | h1
    · exact vget_in A c xs n 10 w hr hc (by omega) (.inr ⟨h1, rfl⟩) hw
    · exact vget_in A c xs n (xs.length - n) w hr hc (by omega) (.inl ⟨h1, rfl⟩) hw

/-- The same, the length spelled freely, the answers under names of their own. -/
theorem vget_new (A : Option Addr) (n c : Nat) (xs : List Int) (a : Int) (w : World) (hn : n = xs.length) (hr : ReadsInt w .u8 A n xs) (hc : n ≤ c) (hw : ∀ x ∈ xs, 0 ≤ x ∧ x ≤ 255) :
    Calls Tryd.prog 25 #[.slice A n c, .int .i64 a] w fun e w' => ∃ r1 r2 r3 : Int, e = .returned (.tuple #[.int .u64 r1, .int .i64 r2, .int .i64 r3]) ∧ Aside0 (getF xs a = (r1, r2, r3)) ∧ w = w' := by
  subst hn
  exact (vget_any A c xs a w hr hc hw).mono fun _ _ ⟨h1, h2⟩ => ⟨_, _, _, h1, ⟨rfl⟩, h2⟩
end Go.Proofs.YtabcaeckoghmpaaDoor
