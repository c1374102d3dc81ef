/- crc.More and crc.Of: what they compute. -/
import Derived.Test.YtabcaeckoghmpaaDoorBase
import Derived.Laws.BitsLemmas
import Derived.Laws.Bits64
import Derived.IntWalk
namespace Go.Proofs.YtabcaeckoghmpaaDoor
set_option linter.unusedVariables false
set_option linter.unusedSimpArgs false
open Go.RowKit Go.Proofs.YtabcaeckoghmpaaDoorW.PrintWords

/-- One bit of the sum. -/
def step (s : Nat) : Nat := if s % 2 = 1 then s / 2 ^^^ 3988292384 else s / 2
def steps : Nat → Nat → Nat
  | 0, s => s
  | k + 1, s => steps k (step s)
/-- The register over bytes. -/
def reg (s : Nat) : List Int → Nat
  | [] => s
  | x :: l => reg (steps 8 (s ^^^ x.toNat)) l
def inv32 (s : Nat) : Nat := 4294967295 - s
def crcF (s : Nat) (l : List Int) : Nat := inv32 (reg (inv32 s) l)

theorem step_lt (s : Nat) (h : s < 4294967296) : step s < 4294967296 := by
  unfold step
  split
  · exact Nat.xor_lt_two_pow (n := 32) (by omega) (by omega)
  · omega
theorem steps_lt (k : Nat) : ∀ s, s < 4294967296 → steps k s < 4294967296 := by
  induction k with
  | zero => intro s h; exact h
  | succ k ih => intro s h; exact ih _ (step_lt s h)
theorem steps_succ (k : Nat) : ∀ s, steps (k + 1) s = step (steps k s) := by
  induction k with
  | zero => intro s; rfl
  | succ k ih => intro s; rw [steps, ih (step s)]; rfl
theorem reg_append (l m : List Int) : ∀ s, reg s (l ++ m) = reg (reg s l) m := by
  induction l with
  | nil => intro s; rfl
  | cons x l ih => intro s; exact ih _
theorem reg_lt (l : List Int) (hw : ∀ x ∈ l, 0 ≤ x ∧ x ≤ 255) : ∀ s, s < 4294967296 → reg s l < 4294967296 := by
  induction l with
  | nil => intro s h; exact h
  | cons x l ih =>
    intro s h
    have hx := hw x (List.mem_cons_self ..)
    exact ih (fun y hy => hw y (List.mem_cons_of_mem _ hy)) _ (steps_lt 8 _ (Nat.xor_lt_two_pow (n := 32) h (by omega)))

theorem wrap_u32' (n : Int) : IntKind.u32.wrap n = n % 4294967296 := IntKind.wrap_u32 n
theorem xor_u32 (a b : Nat) (ha : a < 4294967296) (hb : b < 4294967296) : Go.bits .xor .u32 (a : Int) (b : Int) = ((a ^^^ b : Nat) : Int) := by
  have h := Nat.xor_lt_two_pow (n := 32) (x := a) (y := b) (by omega) (by omega)
  show IntKind.u32.wrap ((BitVec.ofInt 32 (a : Int) ^^^ BitVec.ofInt 32 (b : Int)).toNat : Int) = _
  rw [BitVec.ofInt_natCast, BitVec.ofInt_natCast, BitVec.toNat_xor, BitVec.toNat_ofNat, BitVec.toNat_ofNat, Nat.mod_eq_of_lt (by omega), Nat.mod_eq_of_lt (by omega), wrap_u32']
  omega
theorem and1_u32 (a : Nat) (ha : a < 4294967296) : Go.bits .and .u32 (a : Int) 1 = ((a % 2 : Nat) : Int) := by
  show IntKind.u32.wrap ((BitVec.ofInt 32 (a : Int) &&& BitVec.ofInt 32 1).toNat : Int) = _
  have h2 : (BitVec.ofInt 32 1).toNat = 2 ^ 1 - 1 := by decide
  rw [BitVec.toNat_and, h2, Nat.and_two_pow_sub_one_eq_mod, BitVec.ofInt_natCast, BitVec.toNat_ofNat, Nat.mod_eq_of_lt (a := a) (by omega), wrap_u32']
  omega

theorem xor_ones32 (b : Nat) (hb : b < 4294967296) : 4294967295 ^^^ b = 4294967295 - b := by
  apply Nat.eq_of_testBit_eq
  intro i
  rw [show (4294967295 : Nat) = 2 ^ 32 - 1 from rfl, Nat.testBit_xor, Nat.testBit_two_pow_sub_one, show 2 ^ 32 - 1 - b = 2 ^ 32 - (b + 1) by omega, Nat.testBit_two_pow_sub_succ (by omega)]
  by_cases hi : i < 32
  · simp [hi]
  · have : b.testBit i = false := Nat.testBit_lt_two_pow (Nat.lt_of_lt_of_le hb (by rw [show (4294967296 : Nat) = 2 ^ 32 from rfl]; exact Nat.pow_le_pow_right (by decide) (by omega)))
    simp [hi, this]
theorem not_u32 (a : Nat) (ha : a < 4294967296) : Go.bits .xor .u32 IntKind.u32.max (a : Int) = ((inv32 a : Nat) : Int) := by
  have e : IntKind.u32.max = ((4294967295 : Nat) : Int) := by decide
  rw [e, xor_u32 _ _ (by decide) ha, xor_ones32 a ha]
  rfl
theorem inv32_lt (a : Nat) : inv32 a < 4294967296 := by unfold inv32; omega
theorem rd_byte (xs : List Int) (hw : ∀ x ∈ xs, 0 ≤ x ∧ x ≤ 255) (i : Nat) : 0 ≤ rd xs i ∧ rd xs i ≤ 255 := by
  unfold rd
  rw [Int.toNat_natCast, List.getD_eq_getElem?_getD]
  rcases Nat.lt_or_ge i xs.length with h | h
  · rw [List.getElem?_eq_getElem h]
    exact hw _ (List.getElem_mem h)
  · rw [List.getElem?_eq_none h]
    simp
theorem take_rd (l : List Int) (k : Nat) (h : k < l.length) : l.take (k + 1) = l.take k ++ [rd l k] := by
  unfold rd
  rw [Int.toNat_natCast, List.take_succ_eq_append_getElem h, List.getD_eq_getElem?_getD, List.getElem?_eq_getElem h]
  rfl

theorem cmore_any (A : Option Addr) (n c s : Nat) (xs : List Int) (w : World) (hn : n = xs.length) (hr : ReadsInt w .u8 A n xs) (hs : s < 4294967296) (hw : ∀ x ∈ xs, 0 ≤ x ∧ x ≤ 255) :
    Calls Tryd.prog 32 #[.int .u32 (s : Int), .slice A n c] w fun e w' => e = .returned (.int .u32 (crcF s xs : Nat)) ∧ w = w' := by
  have hm := hr.2.1
  have HR := Aside0.mk hr
  have HW := Aside0.mk hw
  have HS := Aside0.mk hs
  have HN := Aside0.mk hn
  clear hr hw hs hn
  go_enter Tryd.func32, Tryd.ntmps32
  go_wp2_with fail
  go_loop [0, 12] (fun t u => ∃ (v i : Nat), t = .int .u32 (v : Int) ∧ u = .int .i64 (i : Int) ∧ i ≤ n ∧ Aside0 (v < 4294967296) ∧ Aside0 (v = reg (inv32 s) (xs.take i))) (fun _ u => n - (intOf u).toNat)
  case atStart => exact ⟨inv32 s, 0, by rw [not_u32 s HS.out], rfl, by omega, ⟨inv32_lt s⟩, ⟨rfl⟩⟩
  case round =>
    obtain ⟨v, i, rfl, rfl, hi, HV, HG⟩ := hrel
    by_cases hlt : i < n
    · obtain ⟨ad, rfl, hcell⟩ := HR.out.at_ i (by omega) (by omega)
      rw [Int.toNat_natCast] at hcell
      obtain ⟨x, hx⟩ : ∃ x, rd xs i = x := ⟨_, rfl⟩
      rw [hx] at hcell
      have hb := rd_byte xs HW.out i
      rw [hx] at hb
      obtain ⟨hb0, hb1⟩ := hb
      obtain ⟨x, rfl⟩ := Int.eq_ofNat_of_zero_le hb0
      have HX := Aside0.mk hx
      clear hx hb0
      have hv0 := Aside0.mk (xor_u32 v x HV.out (by omega))
      have hv1 := Aside0.mk (Nat.xor_lt_two_pow (n := 32) (x := v) (y := x) (by have := HV.out; omega) (by omega))
      obtain ⟨v0, hv2⟩ : ∃ v0, v ^^^ x = v0 := ⟨_, rfl⟩
      have HV2 := Aside0.mk hv2
      rw [hv2] at hv0 hv1
      clear hv2
      go_wp2_with fail
      go_loop [0, 20] (fun t u => ∃ (y j : Nat), t = .int .u32 (y : Int) ∧ u = .int .i64 (j : Int) ∧ j ≤ 8 ∧ Aside0 (y < 4294967296) ∧ Aside0 (y = steps j v0)) (fun _ u => 8 - (intOf u).toNat)
      case atStart => exact ⟨v0, 0, by rw [hv0.out], rfl, by omega, hv1, ⟨rfl⟩⟩
      case round =>
        obtain ⟨y, j, rfl, rfl, hj, HY, HJ⟩ := hrel
        by_cases hlt2 : j < 8
        · by_cases ho : y % 2 = 1
          · have ho' : (Go.bits .and .u32 (y : Int) 1 == 1) = true := by rw [and1_u32 y HY.out, ho]; rfl
            have hs := Aside0.mk (xor_u32 (y / 2) 3988292384 (by have := HY.out; omega) (by omega))
            have HO := Aside0.mk ho
            clear ho
            go_wp2
            go_round
            case rel =>
              refine ⟨step y, j + 1, ?_, by go_num, by omega, ⟨step_lt y HY.out⟩, ⟨by rw [steps_succ, HJ.out]⟩⟩
              have h1 : step y = y / 2 ^^^ 3988292384 := by unfold step; rw [if_pos HO.out]
              rw [h1, ← hs.out]
              rfl
            case measure => simp [intOf]; omega
          · have ho' : (Go.bits .and .u32 (y : Int) 1 == 1) = false := by rw [and1_u32 y HY.out, beq_eq_false_iff_ne]; omega
            have HO := Aside0.mk ho
            clear ho
            go_wp2
            go_round
            case rel =>
              refine ⟨step y, j + 1, ?_, by go_num, by omega, ⟨step_lt y HY.out⟩, ⟨by rw [steps_succ, HJ.out]⟩⟩
              have h1 : step y = y / 2 := by unfold step; rw [if_neg HO.out]
              rw [h1]
              rfl
            case measure => simp [intOf]; omega
        · go_wp2
          go_round
          case rel =>
            refine ⟨y, i + 1, rfl, by go_num, by omega, HY, ⟨?_⟩⟩
            rw [HJ.out, take_rd xs i (by have := HN.out; omega), reg_append, ← HG.out, HX.out]
            have : j = 8 := by omega
            rw [this, ← HV2.out]
            rfl
          case measure => simp [intOf]; omega
    · go_wp2
      go_ret
      refine ⟨?_, rfl⟩
      have : crcF s xs = inv32 v := by
        unfold crcF
        rw [HG.out, List.take_of_length_le (by have := HN.out; omega)]
      rw [this, ← not_u32 v HV.out]
      rfl
end Go.Proofs.YtabcaeckoghmpaaDoor
