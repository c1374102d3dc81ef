/- The law LexNumbers. -/
import Derived.Test.YteipadogmdppgaaDoorLNumber
import Derived.Test.YteipadogmdppgaaDoorLRefAll
import Derived.Test.YteipadogmdppgaaDoorPlace
namespace Go.Proofs.YteipadogmdppgaaDoor
set_option linter.unusedVariables false
set_option linter.unusedSimpArgs false
open Go.RowKit Go.Proofs.YteipadogmdppgaaDoorW.PrintWords

def digsB (D : List Nat) : Prop := ∀ b ∈ D, 48 ≤ b ∧ b ≤ 57
def valD : List Nat → Nat
  | [] => 0
  | b :: u => (b - 48) * 10 ^ u.length + valD u
theorem numL_val : ∀ (D : List Nat) (a : Nat), digsB D → numL a D = some (a * 10 ^ D.length + valD D) := by
  intro D
  induction D with
  | nil => intro a _; simp [numL, valD]
  | cons b u ih =>
    intro a h
    have hb := h b (List.mem_cons_self ..)
    rw [numL, if_pos hb, ih _ (fun x hx => h x (List.mem_cons_of_mem _ hx)), valD, List.length_cons, Nat.pow_succ]
    congr 1
    rw [Nat.add_mul, ← Nat.add_assoc]
    congr 2
    rw [Nat.mul_comm (10 ^ u.length) 10, ← Nat.mul_assoc, Nat.mul_comm a 10]
/-- The digits written so far, and what is left. -/
structure NumAt (v x : Nat) (D : List Nat) : Prop where
  digs : digsB D
  value : x * 10 ^ D.length + valD D = v
  less : x < 10 ^ (9 - D.length)
  short : D.length ≤ 9
  head : D = [] ∨ (x = 0 → D.length = 1 ∨ D.getD 0 0 ≠ 48)
theorem num_step (v x : Nat) (D : List Nat) (h : NumAt v x D) (hx : 0 < x ∨ D = []) : NumAt v (x / 10) ((48 + x % 10) :: D) := by
  obtain ⟨h1, h2, h3, h4, h5⟩ := h
  have hl : D.length ≤ 8 := by
    rcases hx with hx | hx
    · rcases Nat.lt_or_ge 8 D.length with hl | hl
      · have : D.length = 9 := by omega
        rw [this] at h3
        simp at h3
        omega
      · exact hl
    · subst hx; simp
  refine ⟨?_, ?_, ?_, by simp; omega, .inr fun h0 => ?_⟩
  · intro b hb
    rcases List.mem_cons.1 hb with rfl | hb
    · omega
    · exact h1 b hb
  · rw [valD, List.length_cons, Nat.pow_succ, ← h2, Nat.add_sub_cancel_left, ← Nat.add_assoc]
    congr 1
    rw [Nat.mul_comm (10 ^ D.length) 10, ← Nat.mul_assoc, ← Nat.add_mul]
    congr 1
    omega
  · rw [List.length_cons]
    have e : 9 - D.length = (9 - (D.length + 1)) + 1 := by omega
    rw [e, Nat.pow_succ] at h3
    omega
  · rcases Nat.eq_zero_or_pos x with hx0 | hx0
    · rcases hx with hx | hx
      · omega
      · subst hx; exact .inl rfl
    · right
      show 48 + x % 10 ≠ 48
      omega
theorem num_start (v : Nat) (h : v < 1000000000) : NumAt v v [] := ⟨(fun b hb => by cases hb), by simp [valD], by simpa using h, by simp, .inl rfl⟩
theorem num_end (v : Nat) (s : ByteArray) (h : NumAt v 0 (bs s)) (hne : bs s ≠ []) : numF s = (v, true) := by
  obtain ⟨h1, h2, h3, h4, h5⟩ := h
  have hl := List.length_pos_iff.2 hne
  rw [bs_length] at h4 hl
  have h6 := (h5.resolve_left hne) rfl
  rw [bs_length, bs_getD] at h6
  rw [numF, if_neg (by omega), numL_val _ _ h1]
  simp only [Nat.zero_mul, Nat.zero_add]
  rw [Nat.zero_mul, Nat.zero_add] at h2
  rw [h2]
theorem valid_digs (s : ByteArray) (h : digsB (bs s)) : validG s = true := by
  have : ∀ k p, validF s k p = true := by
    intro k
    induction k with
    | zero => intro p; rfl
    | succ k ih =>
      intro p
      by_cases hp : p < s.size
      · rw [validF_step s k p hp]
        have hm : bt8 s p ∈ bs s := by
          rw [← bs_getD, List.getD_eq_getElem?_getD, List.getElem?_eq_getElem (by rw [bs_length]; exact hp)]
          exact List.getElem_mem _
        have hb := h _ hm
        have hd : Utf8.decode s p = (bt8 s p, 1) := by rw [dec_dL, drop_cons s p hp, dL_low _ _ (by omega)]
        rw [hd, if_neg (by simp only; omega)]
        exact ih _
      · exact validF_end s _ p hp
  exact this _ _
theorem dig_lit : ∀ m : Nat, m < 10 → ((⟨#[48, 49, 50, 51, 52, 53, 54, 55, 56, 57]⟩ : ByteArray).extract m (m + 1) = strOfNums [((48 + m : Nat) : Int)] ∨ False) := by decide +kernel
theorem dig_bs : ∀ m : Nat, m < 10 → (bs (strOfNums [((48 + m : Nat) : Int)]) = [48 + m] ∨ False) := by decide +kernel

set_option maxRecDepth 100000 in
set_option maxHeartbeats 2000000 in
theorem lexnumbers_walk (n : Int) (w : World) (hn : -9223372036854775808 ≤ n ∧ n ≤ 9223372036854775807) (hT : Tabs w) :
    Calls Tryd.prog 9 #[.int .i64 n] w fun e w' => e = .returned (.bool true) ∧ Below w.heap.size w w' := by
  have HT := Aside0.mk hT
  clear hT
  go_enter Tryd.func9, Tryd.ntmps9
  go_wp2_with fail
  refine (place_any n 1000000000 _ (by omega) (by omega)).mono ?_
  rintro e w1 ⟨v, rfl, hv, rfl⟩
  go_wp2_with fail
  go_loop [4, 5] (fun a b => ∃ (s : ByteArray) (x : Nat), a = .string s ∧ b = .int .i64 (x : Int) ∧ s.size ≤ 9 ∧ x < 1000000000 ∧ Aside0 (NumAt v x (bs s))) (fun a _ => match a with | .string t => 10 - t.size | _ => 0)
  case atStart => exact ⟨ByteArray.empty, v, rfl, rfl, by decide, hv, ⟨num_start v hv⟩⟩
  case round =>
    obtain ⟨s, x, rfl, rfl, hsz, hx, HN⟩ := hrel
    by_cases hgo : 0 < x ∨ s.size = 0
    · have hnil : s.size = 0 → bs s = [] := fun h => List.eq_nil_of_length_eq_zero (by rw [bs_length]; exact h)
      have HN2 := Aside0.mk (num_step v x (bs s) HN.out (by rcases hgo with h | h; exact .inl h; exact .inr (hnil h)))
      obtain ⟨m, hm⟩ : ∃ m, x % 10 = m := ⟨_, rfl⟩
      obtain ⟨y, hy⟩ : ∃ y, x / 10 = y := ⟨_, rfl⟩
      rw [hm, hy] at HN2
      have hm10 : m < 10 := by omega
      have hmi : (x : Int).tmod 10 = (m : Int) := by rw [Int.tmod_eq_emod_of_nonneg (by omega)]; omega
      have hyi : (x : Int).tdiv 10 = (y : Int) := by rw [Int.tdiv_eq_ediv_of_nonneg (by omega)]; omega
      obtain ⟨m1, hm1⟩ : ∃ m1, m + 1 = m1 := ⟨_, rfl⟩
      have hm1i : (m : Int) + 1 = (m1 : Int) := by omega
      have hcut := fun W => cut_str ⟨#[48, 49, 50, 51, 52, 53, 54, 55, 56, 57]⟩ m m1 (by omega) (show m1 ≤ 10 by omega) W
      have hlit := (dig_lit m hm10).resolve_right id
      have hdb := (dig_bs m hm10).resolve_right id
      rw [hm1] at hlit
      obtain ⟨dS, hdS⟩ : ∃ d, strOfNums [((48 + m : Nat) : Int)] = d := ⟨_, rfl⟩
      rw [hdS] at hlit hdb
      simp only [hlit] at hcut
      have hds : dS.size = 1 := by rw [← bs_length, hdb]; rfl
      obtain ⟨s2, hs2⟩ : ∃ s2, dS ++ s = s2 := ⟨_, rfl⟩
      have hb2 : bs s2 = (48 + m) :: bs s := by rw [← hs2, bs_append, hdb]; rfl
      have hz2 : s2.size = s.size + 1 := by rw [← bs_length, hb2, List.length_cons, bs_length]
      have hsum : ¬ (9223372036854775807 < dS.size + s.size) := by omega
      have h9 : s2.size ≤ 9 := by have := HN2.out.short; rw [List.length_cons, bs_length] at this; omega
      rw [← hb2] at HN2
      have HZ := Aside0.mk hz2
      have HLIT := Aside0.mk hlit
      have HS2 := Aside0.mk hs2
      have HM := Aside0.mk hm
      have HM1 := Aside0.mk hm1
      have hyb : y < 1000000000 := by omega
      clear hlit hdb hdS hb2 hz2 hm hm1 hds hnil HN
      by_cases hx0 : 0 < x
      · have d1 : decide ((0 : Int) < (x : Int)) = true := decide_eq_true (by omega)
        have d2 : decide (0 < x) = true := decide_eq_true hx0
        clear hgo
        go_wp2
        go_round
        case rel => exact ⟨s2, y, rfl, by go_num, h9, hyb, HN2⟩
        case measure => have := HZ.out; simp; omega
      · have hx00 : x = 0 := by omega
        have e0 := str_empty s true (decide_eq_true (by omega))
        subst hx00
        obtain rfl : 0 = m := HM.out
        obtain rfl : 1 = m1 := HM1.out
        obtain rfl : 0 = y := hy
        clear hgo hcut hmi hyi hm1i
        go_wp2
        go_round
        case rel => exact ⟨s2, 0, by rw [HLIT.out, HS2.out], rfl, h9, hyb, HN2⟩
        case measure =>
          have h1 := HZ.out
          rw [← HS2.out, ← HLIT.out] at h1
          simp only [Array.getD_eq_getD_getElem?]
          first
          | (simp; omega)
          | (simp [ByteArray.size_append] at h1 ⊢; omega)
    · have hx0 : x = 0 := by omega
      have hs0 : ¬ s.size = 0 := by omega
      subst hx0
      have e0 := str_empty s false (decide_eq_false hs0)
      have hne : bs s ≠ [] := by intro e; apply hs0; rw [← bs_length, e]; rfl
      have HF := Aside0.mk (num_end v s HN.out hne)
      have HVAL := Aside0.mk (valid_digs s HN.out.digs)
      obtain ⟨s0, hs0e⟩ : ∃ t, (⟨#[48]⟩ : ByteArray) ++ s = t := ⟨_, rfl⟩
      have hz0 : s0.size = 1 + s.size := by rw [← hs0e, ByteArray.size_append]; rfl
      have hb0 : bt8 s0 0 = 48 := by rw [← bs_getD, ← hs0e, bs_append]; rfl
      have HF0 : Aside0 (numF s0 = (0, false)) := ⟨by rw [numF, if_pos (.inr (.inr ⟨by omega, hb0⟩))]⟩
      obtain ⟨l1, hl1⟩ : ∃ l, s.size - 1 = l := ⟨_, rfl⟩
      have hl1i : (s.size : Int) - 1 = (l1 : Int) := by omega
      obtain ⟨zS, hzS⟩ : ∃ z, (⟨#[48, 48, 48, 48, 48, 48, 48, 48, 48]⟩ : ByteArray).extract l1 9 = z := ⟨_, rfl⟩
      have hzz : zS.size = 9 - l1 := by rw [← hzS, ByteArray.size_extract]; show min 9 9 - l1 = _; omega
      obtain ⟨u1, hu1⟩ : ∃ t, (⟨#[49]⟩ : ByteArray) ++ zS = t := ⟨_, rfl⟩
      have hzu1 : u1.size = 1 + zS.size := by rw [← hu1, ByteArray.size_append]; rfl
      obtain ⟨u2, hu2⟩ : ∃ t, u1 ++ s = t := ⟨_, rfl⟩
      have hzu2 : u2.size = u1.size + s.size := by rw [← hu2, ByteArray.size_append]
      have HF2 : Aside0 (numF u2 = (0, false)) := ⟨by rw [numF, if_pos (.inr (.inl (by omega)))]⟩
      have hsum1 : ¬ (9223372036854775807 < 1 + s.size) := by omega
      have hsum2 : ¬ (9223372036854775807 < 1 + zS.size) := by omega
      have hsum3 : ¬ (9223372036854775807 < u1.size + s.size) := by omega
      have hl9 : (l1 : Int) ≤ 9 := by omega
      have hu2s : u2.size ≤ 100 := by omega
      have hs0s : s0.size ≤ 100 := by omega
      clear hgo hs0 hne hz0 hb0 hl1 hzz hzu1 hzu2 HN
      go_wp2_with fail
      refine (number_any s _ (by omega) v true HF).mono ?_
      rintro e w2 ⟨rfl, HB2⟩
      go_wp2_with fail
      refine (number_any s0 _ (by omega) 0 false HF0).mono ?_
      rintro e w3 ⟨rfl, hB3⟩
      have HB3 := Aside0.mk (HB2.out.trans (hB3.out.mono HB2.out.size))
      clear hB3
      go_wp2_with fail
      refine (number_any u2 _ (by omega) 0 false HF2).mono ?_
      rintro e w4 ⟨rfl, hB4⟩
      have HB4 := Aside0.mk (HB3.out.trans (hB4.out.mono HB3.out.size))
      clear hB4
      go_wp2_with fail
      refine (rvalid_any s _ (by omega) true HVAL).mono ?_
      rintro e w5 ⟨rfl, hB5⟩
      have HB5 := Aside0.mk (HB4.out.trans (hB5.mono HB4.out.size))
      clear hB5
      go_wp2_with fail
      refine (awake_any _ (tabs_below HT.out HB5.out)).mono ?_
      rintro e w6 ⟨rfl, hB6⟩
      have HB6 := Aside0.mk (HB5.out.trans (hB6.mono HB5.out.size))
      clear hB6
      go_wp2
      go_ret
      exact ⟨rfl, HB6.out⟩
end Go.Proofs.YteipadogmdppgaaDoor
