/- The law CrcTurns' walk. -/
import Derived.Test.YtldkgamgflnjkaaCTurnsPure
import Derived.Test.YtldkgamgflnjkaaCAwake
import Derived.Test.YtldkgamgflnjkaaPlace
namespace Go.Proofs.Ytldkgamgflnjkaa
set_option linter.unusedVariables false
set_option linter.unusedSimpArgs false
open Go.RowKit Go.Proofs.YtldkgamgflnjkaaW.PrintWords

theorem xor_u8 (a b : Nat) (ha : a < 256) (hb : b < 256) : Go.bits .xor .u8 (a : Int) (b : Int) = ((a ^^^ b : Nat) : Int) := by
  have h := Nat.xor_lt_two_pow (n := 8) (x := a) (y := b) (by omega) (by omega)
  show IntKind.u8.wrap ((BitVec.ofInt 8 (a : Int) ^^^ BitVec.ofInt 8 (b : Int)).toNat : Int) = _
  rw [BitVec.ofInt_natCast, BitVec.ofInt_natCast, BitVec.toNat_xor, BitVec.toNat_ofNat, BitVec.toNat_ofNat, Nat.mod_eq_of_lt (by omega), Nat.mod_eq_of_lt (by omega), IntKind.wrap_u8]
  omega

/-- The bytes from place k on, the first i of them turned. -/
def patch (xs : List Int) (k row : Nat) : Nat → List Int
  | 0 => xs
  | i + 1 => (patch xs k row i).set (k + i) (((rd xs (k + i : Nat)).toNat ^^^ row / 2 ^ (8 * i) % 256 : Nat) : Int)
theorem patch_length (xs : List Int) (k row i : Nat) : (patch xs k row i).length = xs.length := by
  induction i with
  | zero => rfl
  | succ i ih => rw [patch, List.length_set, ih]
theorem patch_rd (xs : List Int) (k row i j : Nat) (h : k + i ≤ j) : rd (patch xs k row i) (j : Int) = rd xs (j : Int) := by
  induction i with
  | zero => rfl
  | succ i ih =>
    rw [patch]
    have := ih (by omega)
    unfold rd at this ⊢
    rw [Int.toNat_natCast, List.getD_eq_getElem?_getD, List.getElem?_set_ne (by omega), ← List.getD_eq_getElem?_getD]
    rw [Int.toNat_natCast] at this
    exact this
theorem patch_bytes (xs : List Int) (k row i : Nat) (hw : ∀ x ∈ xs, 0 ≤ x ∧ x ≤ 255) : ∀ x ∈ patch xs k row i, 0 ≤ x ∧ x ≤ 255 := by
  induction i with
  | zero => exact hw
  | succ i ih =>
    intro x hx
    rw [patch] at hx
    rcases List.mem_or_eq_of_mem_set hx with hx | rfl
    · exact ih x hx
    · have h1 := rd_byte xs hw (k + i)
      have h2 := Nat.xor_lt_two_pow (n := 8) (x := (rd xs (k + i : Nat)).toNat) (y := row / 2 ^ (8 * i) % 256) (by omega) (by omega)
      omega

theorem rd_app (p l : List Int) (i : Nat) : rd (p ++ l) ((p.length + i : Nat) : Int) = l.getD i 0 := by
  unfold rd
  rw [Int.toNat_natCast, List.getD_eq_getElem?_getD, List.getElem?_append_right (by omega), Nat.add_sub_cancel_left, List.getD_eq_getElem?_getD]
theorem set_app (p l : List Int) (i : Nat) (v : Int) : (p ++ l).set (p.length + i) v = p ++ l.set i v := by
  rw [List.set_append_right _ _ (by omega), Nat.add_sub_cancel_left]

theorem patch_four (p q : List Int) (m0 m1 m2 m3 : Int) (row : Nat) :
    patch (p ++ (m0 :: m1 :: m2 :: m3 :: q)) p.length row 4 = p ++ (((m0.toNat ^^^ row / 2 ^ (8 * 0) % 256 : Nat) : Int) :: ((m1.toNat ^^^ row / 2 ^ (8 * 1) % 256 : Nat) : Int) :: ((m2.toNat ^^^ row / 2 ^ (8 * 2) % 256 : Nat) : Int) :: ((m3.toNat ^^^ row / 2 ^ (8 * 3) % 256 : Nat) : Int) :: q) := by
  simp only [patch, rd_app, set_app]
  rfl

theorem turns_ne (xs : List Int) (k row : Nat) (h : k + 4 ≤ xs.length) (hw : ∀ x ∈ xs, 0 ≤ x ∧ x ≤ 255) (h0 : row ≠ 0) (h1 : row < 4294967296) : crcF 0 (patch xs k row 4) ≠ crcF 0 xs := by
  obtain ⟨p, d, rfl, rfl⟩ : ∃ p d, xs = p ++ d ∧ k = p.length := ⟨xs.take k, xs.drop k, (List.take_append_drop k xs).symm, by simp; omega⟩
  match d, h with
  | m0 :: m1 :: m2 :: m3 :: q, _ =>
    rw [patch_four]
    intro he
    have b0 := hw m0 (by simp)
    have b1 := hw m1 (by simp)
    have b2 := hw m2 (by simp)
    have b3 := hw m3 (by simp)
    have hp : ∀ x ∈ p, 0 ≤ x ∧ x ≤ 255 := fun x hx => hw x (by simp [hx])
    have hq : ∀ x ∈ q, 0 ≤ x ∧ x ≤ 255 := fun x hx => hw x (by simp [hx])
    obtain ⟨n0, rfl⟩ := Int.eq_ofNat_of_zero_le b0.1
    obtain ⟨n1, rfl⟩ := Int.eq_ofNat_of_zero_le b1.1
    obtain ⟨n2, rfl⟩ := Int.eq_ofNat_of_zero_le b2.1
    obtain ⟨n3, rfl⟩ := Int.eq_ofNat_of_zero_le b3.1
    simp only [Int.toNat_natCast] at he
    have := crc_turns p q n0 n1 n2 n3 _ _ _ _ hp hq (by omega) (by omega) (by omega) (by omega) (by omega) (by omega) (by omega) (by omega) he
    omega
  | [], h => exact absurd h (by simp only [List.length_append, List.length_cons, List.length_nil]; omega)
  | [_], h => exact absurd h (by simp only [List.length_append, List.length_cons, List.length_nil]; omega)
  | [_, _], h => exact absurd h (by simp only [List.length_append, List.length_cons, List.length_nil]; omega)
  | [_, _, _], h => exact absurd h (by simp only [List.length_append, List.length_cons, List.length_nil]; omega)

set_option maxHeartbeats 1000000 in
theorem crcturns_walk (A0 : Option Addr) (c0 : Nat) (xs : List Int) (a1 a2 : Int) (w : World) (hr : ReadsInt w .u8 A0 xs.length xs) (hc : xs.length ≤ c0) (hl : xs.length * 1 ≤ 140737488351232) (hw : ∀ x ∈ xs, 0 ≤ x ∧ x ≤ 255) (h1 : -9223372036854775808 ≤ a1 ∧ a1 ≤ 9223372036854775807) (h2 : 0 ≤ a2 ∧ a2 ≤ 4294967295) :
    Calls Try.prog 5 #[.slice A0 xs.length c0, .int .i64 a1, .int .u32 a2] w fun e w' => e = .returned (.bool true) ∧ Below w.heap.size w w' := by
  have HR := Aside0.mk hr
  have HW := Aside0.mk hw
  clear hr hw h1
  by_cases hs : xs.length < 4 ∨ a2 = 0
  · by_cases h4 : xs.length < 4
    · go_enter Try.func5, Try.ntmps5
      go_wp2_with fail
      refine (awake_any _).mono ?_
      rintro e w6 ⟨rfl, hB6⟩
      have HB6 := Aside0.mk hB6
      clear hB6
      go_wp2
      go_ret
      exact ⟨rfl, HB6.out⟩
    · have h0 : (a2 == 0) = true := by rw [beq_iff_eq]; omega
      go_enter Try.func5, Try.ntmps5
      go_wp2_with fail
      refine (awake_any _).mono ?_
      rintro e w6 ⟨rfl, hB6⟩
      have HB6 := Aside0.mk hB6
      clear hB6
      go_wp2
      go_ret
      exact ⟨rfl, HB6.out⟩
  · have h4 : ¬ xs.length < 4 := by omega
    obtain ⟨row, rfl⟩ := Int.eq_ofNat_of_zero_le h2.1
    have h0 : ((row : Int) == 0) = false := by rw [beq_eq_false_iff_ne]; omega
    have HROW := Aside0.mk (show row ≠ 0 ∧ row < 4294967296 by omega)
    clear hs h2
    go_enter Try.func5, Try.ntmps5
    go_wp2_with fail
    refine (place_new a1 _ _ (by omega) (by omega)).mono ?_
    rintro e w1 ⟨k, rfl, hk, rfl⟩
    go_wp2_with fail
    refine (bytes_new A0 _ c0 xs _ rfl HR.out (by omega)).mono ?_
    rintro e w1 ⟨v, rfl, ho, hB1⟩
    obtain ⟨g, cap, rfl, hgb, hgl⟩ := ho.out.form (by omega)
    go_wp2_with fail
    go_loopw [9] (fun u wr => ∃ (i : Nat), u = .int .i64 (i : Int) ∧ i ≤ 4 ∧ Aside0 (wr.ownsRow w.heap.size 5 1 (.slice (some ⟨g, 0, none⟩) xs.length cap) xs.length (nums .u8 (patch xs k row i))) ∧ Aside0 (Below w.heap.size w wr)) (fun u _ => 4 - (intOf u).toNat)
    case atStart => exact ⟨0, rfl, by omega, ho, hB1⟩
    case round =>
      obtain ⟨i, rfl, hi, HO, HB⟩ := hrel
      by_cases hlt : i < 4
      · have hca := own_at HO.out ((k + i : Nat) : Int) (by omega) (by omega)
        rw [Int.toNat_natCast, patch_rd _ _ _ _ _ (Nat.le_refl _)] at hca
        obtain ⟨hca, hfa⟩ := hca
        have hb := rd_byte xs HW.out (k + i)
        obtain ⟨x, hx⟩ : ∃ x : Nat, rd xs ((k + i : Nat) : Int) = (x : Int) := ⟨_, (Int.toNat_of_nonneg hb.1).symm⟩
        rw [hx] at hca
        have HX := Aside0.mk hx
        have hxb : x < 256 := by omega
        have hst := own_store HO.out ((k + i : Nat) : Int) (Go.bits .xor .u8 (x : Int) ((row / 2 ^ (8 * i) % 256 : Nat) : Int))
        rw [Int.toNat_natCast] at hst
        have HST := Aside0.mk hst.1
        clear hst hb hx
        go_wp2_with fail
        go_roundw
        case rel =>
          refine ⟨i + 1, by go_num, by omega, ⟨?_⟩, ⟨HB.out.setCell hgb _⟩⟩
          have h3 := HST.out
          have e1 : patch xs k row (i + 1) = (patch xs k row i).set (k + i) (Go.bits .xor .u8 (x : Int) ((row / 2 ^ (8 * i) % 256 : Nat) : Int)) := by
            rw [patch, HX.out, Int.toNat_natCast, xor_u8 x _ hxb (Nat.mod_lt _ (by omega))]
          have e2 : ((row / 2 ^ (8 * i) % 256 : Nat) : Int) = (row : Int) / 2 ^ (8 * i) % 256 := by simp
          rw [e1]
          rw [e2] at h3 ⊢
          exact h3
        case measure => simp [intOf]; omega
      · obtain rfl : i = 4 := by omega
        have hne := Aside0.mk (turns_ne xs k row (by omega) HW.out HROW.out.1 HROW.out.2)
        have hrd := Aside0.mk (own_reads' HO.out)
        have HRX := Aside0.mk (HR.out.below HB.out)
        go_wp2_with fail
        refine (cof_new _ _ cap (patch xs k row 4) _ (patch_length _ _ _ _).symm hrd.out (patch_bytes _ _ _ _ HW.out)).mono ?_
        rintro e w2 ⟨r1, rfl, hr1, rfl⟩
        go_wp2_with fail
        refine (cof_new A0 _ c0 xs _ rfl HRX.out HW.out).mono ?_
        rintro e w2 ⟨r2, rfl, hr2, rfl⟩
        have hrr : (r1 != r2) = true := by
          rw [bne_iff_ne, hr1.out, hr2.out]
          intro h
          exact hne.out (by omega)
        go_wp2_with fail
        refine (awake_any _).mono ?_
        rintro e w6 ⟨rfl, hB6⟩
        have HB6 := Aside0.mk hB6
        clear hB6
        go_wp2
        go_ret
        exact ⟨rfl, HB.out.trans (HB6.out.mono HB.out.size)⟩
end Go.Proofs.Ytldkgamgflnjkaa
