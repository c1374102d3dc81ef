/- Plain: bytes that differ within 32 bits in a row have unlike sums. -/
import Derived.Test.YtabcaeckoghmpaaDoorCOf
namespace Go.Proofs.YtabcaeckoghmpaaDoor
set_option linter.unusedVariables false
set_option linter.unusedSimpArgs false
open Go.RowKit Go.Proofs.YtabcaeckoghmpaaDoorW.PrintWords

theorem xor_zero_eq {a b : Nat} (h : a ^^^ b = 0) : a = b := by
  have h1 : a ^^^ b ^^^ b = 0 ^^^ b := by rw [h]
  simpa [Nat.xor_assoc] using h1
theorem inv32_inj {a b : Nat} (ha : a < 4294967296) (hb : b < 4294967296) (h : inv32 a = inv32 b) : a = b := by unfold inv32 at h; omega
theorem xor_two (a b : Nat) : (a ^^^ b) % 2 = (a % 2 + b % 2) % 2 := by
  have h := Nat.xor_mod_two_pow (a := a) (b := b) (n := 1)
  rw [Nat.pow_one] at h
  rw [h]
  rcases Nat.mod_two_eq_zero_or_one a with ha | ha <;> rcases Nat.mod_two_eq_zero_or_one b with hb | hb <;> rw [ha, hb] <;> rfl

theorem step_xor (a b : Nat) : step (a ^^^ b) = step a ^^^ step b := by
  unfold step
  have h1 := xor_two a b
  rw [Nat.xor_div_two]
  rcases Nat.mod_two_eq_zero_or_one a with ha | ha <;> rcases Nat.mod_two_eq_zero_or_one b with hb | hb <;> rw [h1, ha, hb] <;> simp [Nat.xor_assoc]
  · rw [Nat.xor_comm 3988292384 (b / 2)]
  · rw [← Nat.xor_assoc 3988292384, Nat.xor_comm 3988292384 (b / 2), Nat.xor_assoc (b / 2), Nat.xor_self, Nat.xor_zero]
theorem steps_xor (k : Nat) : ∀ a b, steps k (a ^^^ b) = steps k a ^^^ steps k b := by
  induction k with
  | zero => intro a b; rfl
  | succ k ih => intro a b; rw [steps, step_xor, ih]; rfl
theorem step_zero (a : Nat) (h : a < 4294967296) (h0 : step a = 0) : a = 0 := by
  unfold step at h0
  split at h0
  · have := xor_zero_eq h0
    omega
  · omega
theorem steps_zero (k : Nat) : ∀ a, a < 4294967296 → steps k a = 0 → a = 0 := by
  induction k with
  | zero => intro a _ h; exact h
  | succ k ih => intro a h h0; exact step_zero a h (ih _ (step_lt a h) h0)
theorem steps_inj (k a b : Nat) (ha : a < 4294967296) (hb : b < 4294967296) (h : steps k a = steps k b) : a = b := by
  have h1 : steps k (a ^^^ b) = 0 := by rw [steps_xor, h, Nat.xor_self]
  exact xor_zero_eq (steps_zero k _ (Nat.xor_lt_two_pow (n := 32) ha hb) h1)
theorem steps_shift (k : Nat) : ∀ z, steps k (2 ^ k * z) = z := by
  induction k with
  | zero => intro z; simp [steps]
  | succ k ih =>
    intro z
    obtain ⟨p, hp⟩ : ∃ p, 2 ^ k * z = p := ⟨_, rfl⟩
    have e : 2 ^ (k + 1) * z = 2 * p := by rw [← hp, Nat.pow_succ, Nat.mul_comm (2 ^ k) 2, Nat.mul_assoc]
    rw [steps, step, e, if_neg (by omega), show 2 * p / 2 = p by omega, ← hp]
    exact ih z
theorem xlt {a b : Nat} (ha : a < 4294967296) (hb : b < 4294967296) : a ^^^ b < 4294967296 := Nat.xor_lt_two_pow (n := 32) ha hb

/-- One byte back: the registers in front differ as the ones behind, eight bits on, and as the bytes. -/
theorem back_one (u v m r e : Nat) (hu : u < 4294967296) (hv : v < 4294967296) (hm : m < 256) (hr : r < 256) (he : e < 16777216)
    (h : steps 8 (u ^^^ m) = steps 8 (v ^^^ (m ^^^ r)) ^^^ e) : u = v ^^^ (r ^^^ (256 * e)) := by
  have h1 : e = steps 8 (256 * e) := (steps_shift 8 e).symm
  rw [h1, ← steps_xor] at h
  have h2 := steps_inj 8 _ _ (xlt hu (by omega)) (xlt (xlt hv (xlt (by omega) (by omega))) (by omega)) h
  have h3 : u ^^^ m ^^^ m = v ^^^ (m ^^^ r) ^^^ (256 * e) ^^^ m := by rw [h2]
  rw [Nat.xor_assoc u, Nat.xor_self, Nat.xor_zero] at h3
  rw [h3]
  rw [Nat.xor_comm m r]
  simp only [Nat.xor_assoc]
  congr 1
  congr 1
  rw [← Nat.xor_assoc, Nat.xor_comm m, Nat.xor_assoc, Nat.xor_self, Nat.xor_zero]

theorem reg_inj (l : List Int) (hw : ∀ x ∈ l, 0 ≤ x ∧ x ≤ 255) : ∀ s t, s < 4294967296 → t < 4294967296 → reg s l = reg t l → s = t := by
  induction l with
  | nil => intro s t _ _ h; exact h
  | cons x l ih =>
    intro s t hs ht h
    have hx := hw x (List.mem_cons_self ..)
    have h1 := ih (fun y hy => hw y (List.mem_cons_of_mem _ hy)) _ _ (steps_lt 8 _ (xlt hs (by omega))) (steps_lt 8 _ (xlt ht (by omega))) h
    have h2 := steps_inj 8 _ _ (xlt hs (by omega)) (xlt ht (by omega)) h1
    have h3 : s ^^^ x.toNat ^^^ x.toNat = t ^^^ x.toNat ^^^ x.toNat := by rw [h2]
    simpa [Nat.xor_assoc] using h3

theorem xor_shift_lt {r e n : Nat} (hr : r < 256) (he : e < 2 ^ n) : r ^^^ (256 * e) < 2 ^ (n + 8) :=
  Nat.xor_lt_two_pow (by have : 2 ^ 8 ≤ 2 ^ (n + 8) := Nat.pow_le_pow_right (by omega) (by omega); omega) (by rw [Nat.pow_add]; omega)
theorem xor_shift_zero {r e : Nat} (hr : r < 256) (h : r ^^^ (256 * e) = 0) : r = 0 ∧ e = 0 := by
  have := xor_zero_eq h
  omega

/-- Four bytes turned by a row that is not nought. -/
theorem reg_four (s m0 m1 m2 m3 r0 r1 r2 r3 : Nat) (hs : s < 4294967296) (h0 : m0 < 256) (h1 : m1 < 256) (h2 : m2 < 256) (h3 : m3 < 256) (g0 : r0 < 256) (g1 : r1 < 256) (g2 : r2 < 256) (g3 : r3 < 256)
    (h : steps 8 (steps 8 (steps 8 (steps 8 (s ^^^ m0) ^^^ m1) ^^^ m2) ^^^ m3) = steps 8 (steps 8 (steps 8 (steps 8 (s ^^^ (m0 ^^^ r0)) ^^^ (m1 ^^^ r1)) ^^^ (m2 ^^^ r2)) ^^^ (m3 ^^^ r3))) :
    r0 = 0 ∧ r1 = 0 ∧ r2 = 0 ∧ r3 = 0 := by
  have L : ∀ {a b}, a < 4294967296 → b < 256 → steps 8 (a ^^^ b) < 4294967296 := fun ha hb => steps_lt 8 _ (xlt ha (by omega))
  have X : ∀ {a b}, a < 256 → b < 256 → a ^^^ b < 256 := fun ha hb => Nat.xor_lt_two_pow (n := 8) ha hb
  have e3 := back_one _ _ m3 r3 0 (L (L (L hs h0) h1) h2) (L (L (L hs (X h0 g0)) (X h1 g1)) (X h2 g2)) h3 g3 (by omega) (by rw [Nat.xor_zero]; exact h)
  have b3 : r3 ^^^ 256 * 0 < 256 := by simpa using g3
  have e2 := back_one _ _ m2 r2 _ (L (L hs h0) h1) (L (L hs (X h0 g0)) (X h1 g1)) h2 g2 (by omega) e3
  have b2 := xor_shift_lt (n := 8) g2 b3
  have e1 := back_one _ _ m1 r1 _ (L hs h0) (L hs (X h0 g0)) h1 g1 (by omega) e2
  have b1 := xor_shift_lt (n := 16) g1 b2
  have e0 := back_one _ _ m0 r0 _ hs hs h0 g0 (by omega) e1
  have z : r0 ^^^ 256 * (r1 ^^^ 256 * (r2 ^^^ 256 * (r3 ^^^ 256 * 0))) = 0 := by
    have : s ^^^ s = s ^^^ (s ^^^ (r0 ^^^ 256 * (r1 ^^^ 256 * (r2 ^^^ 256 * (r3 ^^^ 256 * 0))))) := by rw [← e0]
    rw [Nat.xor_self, ← Nat.xor_assoc, Nat.xor_self, Nat.zero_xor] at this
    exact this.symm
  obtain ⟨z0, z⟩ := xor_shift_zero g0 z
  obtain ⟨z1, z⟩ := xor_shift_zero g1 z
  obtain ⟨z2, z⟩ := xor_shift_zero g2 z
  obtain ⟨z3, _⟩ := xor_shift_zero g3 z
  exact ⟨z0, z1, z2, z3⟩

theorem reg_cons' (s : Nat) (x : Int) (l : List Int) : reg s (x :: l) = reg (steps 8 (s ^^^ x.toNat)) l := by
  conv => lhs; unfold reg
theorem reg_cons (s : Nat) (x : Nat) (l : List Int) : reg s ((x : Int) :: l) = reg (steps 8 (s ^^^ x)) l := (reg_cons' s x l).trans (congrArg (fun y => reg (steps 8 (s ^^^ y)) l) (Int.toNat_natCast x))

attribute [local irreducible] steps step reg inv32
theorem crc_turns (p q : List Int) (m0 m1 m2 m3 r0 r1 r2 r3 : Nat) (hp : ∀ x ∈ p, 0 ≤ x ∧ x ≤ 255) (hq : ∀ x ∈ q, 0 ≤ x ∧ x ≤ 255)
    (h0 : m0 < 256) (h1 : m1 < 256) (h2 : m2 < 256) (h3 : m3 < 256) (g0 : r0 < 256) (g1 : r1 < 256) (g2 : r2 < 256) (g3 : r3 < 256)
    (h : crcF 0 (p ++ (((m0 ^^^ r0 : Nat) : Int) :: ((m1 ^^^ r1 : Nat) : Int) :: ((m2 ^^^ r2 : Nat) : Int) :: ((m3 ^^^ r3 : Nat) : Int) :: q)) = crcF 0 (p ++ ((m0 : Int) :: (m1 : Int) :: (m2 : Int) :: (m3 : Int) :: q))) :
    r0 = 0 ∧ r1 = 0 ∧ r2 = 0 ∧ r3 = 0 := by
  have X : ∀ {a b}, a < 256 → b < 256 → a ^^^ b < 256 := fun ha hb => Nat.xor_lt_two_pow (n := 8) ha hb
  have L : ∀ {a b}, a < 4294967296 → b < 256 → steps 8 (a ^^^ b) < 4294967296 := fun ha hb => steps_lt 8 _ (xlt ha (by omega))
  have hs := reg_lt p hp (inv32 0) (inv32_lt 0)
  unfold crcF at h
  rw [reg_append, reg_append] at h
  generalize reg (inv32 0) p = s at h hs
  simp only [reg_cons] at h
  have hA := L (L (L (L hs h0) h1) h2) h3
  have hB := L (L (L (L hs (X h0 g0)) (X h1 g1)) (X h2 g2)) (X h3 g3)
  have hC := reg_lt q hq _ hA
  have hD := reg_lt q hq _ hB
  have h' := reg_inj q hq _ _ hB hA (inv32_inj hD hC h)
  exact reg_four s m0 m1 m2 m3 r0 r1 r2 r3 hs h0 h1 h2 h3 g0 g1 g2 g3 h'.symm
end Go.Proofs.YtabcaeckoghmpaaDoor
