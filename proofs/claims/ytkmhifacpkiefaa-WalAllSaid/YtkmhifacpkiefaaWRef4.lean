/- Four bytes' number, as the reference reads it. -/
import Derived.Test.YtkmhifacpkiefaaWRefs
import Derived.IntWalk
namespace Go.Proofs.Ytkmhifacpkiefaa
set_option linter.unusedVariables false
set_option linter.unusedSimpArgs false
open Go.RowKit Go.Proofs.YtkmhifacpkiefaaW.PrintWords

/-- Four bytes' number. -/
def fourN (bs : List Int) (a : Nat) : Nat := (bs.getD a 0).toNat + 256 * (bs.getD (a + 1) 0).toNat + 65536 * (bs.getD (a + 2) 0).toNat + 16777216 * (bs.getD (a + 3) 0).toNat

theorem rfour_any (A : Option Addr) (n c a : Nat) (bs : List Int) (w : World) (hn : n = bs.length) (hr : ReadsInt w .u8 A n bs) (hw : ∀ x ∈ bs, 0 ≤ x ∧ x ≤ 255) (ha : a + 4 ≤ n) :
    Calls Try.prog 29 #[.slice A n c, .int .i64 (a : Int)] w fun e w' => e = .returned (.int .u32 (fourN bs a : Nat)) ∧ Below w.heap.size w w' := by
  have hm := hr.2.1
  obtain ⟨ad, rfl, h0⟩ := hr.at_ ((a : Nat) : Int) (by omega) (by omega)
  have h1 := (hr.at_ ((a + 1 : Nat) : Int) (by omega) (by omega))
  have h2 := (hr.at_ ((a + 2 : Nat) : Int) (by omega) (by omega))
  have h3 := (hr.at_ ((a + 3 : Nat) : Int) (by omega) (by omega))
  obtain ⟨_, e1, h1⟩ := h1; cases e1
  obtain ⟨_, e2, h2⟩ := h2; cases e2
  obtain ⟨_, e3, h3⟩ := h3; cases e3
  rw [Int.toNat_natCast] at h0 h1 h2 h3
  obtain ⟨x0, hx0⟩ : ∃ x : Nat, rd bs (a : Nat) = (x : Int) := ⟨_, (Int.toNat_of_nonneg (rd_byte bs hw a).1).symm⟩
  obtain ⟨x1, hx1⟩ : ∃ x : Nat, rd bs (a + 1 : Nat) = (x : Int) := ⟨_, (Int.toNat_of_nonneg (rd_byte bs hw (a + 1)).1).symm⟩
  obtain ⟨x2, hx2⟩ : ∃ x : Nat, rd bs (a + 2 : Nat) = (x : Int) := ⟨_, (Int.toNat_of_nonneg (rd_byte bs hw (a + 2)).1).symm⟩
  obtain ⟨x3, hx3⟩ : ∃ x : Nat, rd bs (a + 3 : Nat) = (x : Int) := ⟨_, (Int.toNat_of_nonneg (rd_byte bs hw (a + 3)).1).symm⟩
  have b0 := (rd_byte bs hw a).2
  have b1 := (rd_byte bs hw (a + 1)).2
  have b2 := (rd_byte bs hw (a + 2)).2
  have b3 := (rd_byte bs hw (a + 3)).2
  rw [hx0] at h0 b0
  rw [hx1] at h1 b1
  rw [hx2] at h2 b2
  rw [hx3] at h3 b3
  have HF := Aside0.mk (show fourN bs a = x0 + 256 * x1 + 65536 * x2 + 16777216 * x3 by
    unfold rd at hx0 hx1 hx2 hx3
    rw [Int.toNat_natCast] at hx0 hx1 hx2 hx3
    rw [fourN, hx0, hx1, hx2, hx3]
    rfl)
  have k1 : IntKind.i64.wrap ((a : Int) + 1) = ((a + 1 : Nat) : Int) := by rw [IntWalk.i64_in _ (by omega)]; omega
  have k2 : IntKind.i64.wrap ((a : Int) + 2) = ((a + 2 : Nat) : Int) := by rw [IntWalk.i64_in _ (by omega)]; omega
  have k3 : IntKind.i64.wrap ((a : Int) + 3) = ((a + 3 : Nat) : Int) := by rw [IntWalk.i64_in _ (by omega)]; omega
  clear hr hw hx0 hx1 hx2 hx3 hn
  have l0 : a < n := by omega
  have l1 : a + 1 < n := by omega
  have l2 : a + 2 < n := by omega
  have l3 : a + 3 < n := by omega
  have m1 : (a : Int) + 1 < (n : Int) := by omega
  have z1 : 0 ≤ (a : Int) + 1 := by omega
  have t1 : ((a : Int) + 1).toNat = a + 1 := by omega
  have m2 : (a : Int) + 2 < (n : Int) := by omega
  have z2 : 0 ≤ (a : Int) + 2 := by omega
  have t2 : ((a : Int) + 2).toNat = a + 2 := by omega
  have m3 : (a : Int) + 3 < (n : Int) := by omega
  have z3 : 0 ≤ (a : Int) + 3 := by omega
  have t3 : ((a : Int) + 3).toNat = a + 3 := by omega
  have p1 : ad.add (a + 1) = ⟨ad.block, ad.off + (a + 1), none⟩ := by rw [Addr.add, if_neg (by omega)]
  rw [p1] at h1
  have p2 : ad.add (a + 2) = ⟨ad.block, ad.off + (a + 2), none⟩ := by rw [Addr.add, if_neg (by omega)]
  rw [p2] at h2
  have p3 : ad.add (a + 3) = ⟨ad.block, ad.off + (a + 3), none⟩ := by rw [Addr.add, if_neg (by omega)]
  rw [p3] at h3
  clear p1 p2 p3
  replace h0 := fun k => pw_cell_below (pw_below_drewN (Below.refl w.heap.size w) k) h0
  replace h1 := fun k => pw_cell_below (pw_below_drewN (Below.refl w.heap.size w) k) h1
  replace h2 := fun k => pw_cell_below (pw_below_drewN (Below.refl w.heap.size w) k) h2
  replace h3 := fun k => pw_cell_below (pw_below_drewN (Below.refl w.heap.size w) k) h3
  go_enter Try.func29, Try.ntmps29
  go_wp2_with fail
  go_quiet (fail)
  go_wp2
  go_ret
  refine ⟨?_, pw_below_drewN (Below.refl _ _) nq⟩
  show Ending.returned (.int .u32 ((x0 : Int) + x1 * 256 + x2 * 65536 + x3 * 16777216)) = _
  rw [HF.out]
  congr 2
  omega

/-- Four bytes are a sum's just if their number is the sum. -/
theorem low4_four (bs : List Int) (hw : ∀ x ∈ bs, 0 ≤ x ∧ x ≤ 255) (a s : Nat) (ha : a + 4 ≤ bs.length) (hs : s < 4294967296) : low4 s = (bs.drop a).take 4 ↔ s = fourN bs a := by
  have hg : ∀ j, 0 ≤ bs.getD j 0 ∧ bs.getD j 0 ≤ 255 := getD_byte bs hw
  have e : (bs.drop a).take 4 = [bs.getD a 0, bs.getD (a + 1) 0, bs.getD (a + 2) 0, bs.getD (a + 3) 0] := by
    apply List.ext_getElem
    · simp; omega
    · intro i h1 h2
      simp only [List.length_cons, List.length_nil] at h2
      have h3 : (bs.drop a).take 4 = (bs.drop a).take 4 := rfl
      rw [List.getElem_take, List.getElem_drop]
      have hi : i = 0 ∨ i = 1 ∨ i = 2 ∨ i = 3 := by omega
      rcases hi with rfl | rfl | rfl | rfl <;> simp [List.getD_eq_getElem?_getD, List.getElem?_eq_getElem (show a + 3 < bs.length by omega), List.getElem?_eq_getElem (show a + 2 < bs.length by omega), List.getElem?_eq_getElem (show a + 1 < bs.length by omega), List.getElem?_eq_getElem (show a < bs.length by omega)]
  rw [e, low4, fourN]
  have g0 := hg a
  have g1 := hg (a + 1)
  have g2 := hg (a + 2)
  have g3 := hg (a + 3)
  generalize bs.getD a 0 = y0 at *
  generalize bs.getD (a + 1) 0 = y1 at *
  generalize bs.getD (a + 2) 0 = y2 at *
  generalize bs.getD (a + 3) 0 = y3 at *
  simp only [List.cons.injEq, and_true]
  omega
end Go.Proofs.Ytkmhifacpkiefaa
