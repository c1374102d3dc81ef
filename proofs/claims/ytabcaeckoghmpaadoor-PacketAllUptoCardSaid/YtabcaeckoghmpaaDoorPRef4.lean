/- Four bytes' number, as the reference reads it. -/
import Derived.Test.YtabcaeckoghmpaaDoorCOf
import Derived.IntWalk
namespace Go.Proofs.YtabcaeckoghmpaaDoor
set_option linter.unusedVariables false
set_option linter.unusedSimpArgs false
open Go.RowKit Go.Proofs.YtabcaeckoghmpaaDoorW.PrintWords

/-- Four bytes' number. -/
def fourN (bs : List Int) (a : Nat) : Nat := (bs.getD a 0).toNat + 256 * (bs.getD (a + 1) 0).toNat + 65536 * (bs.getD (a + 2) 0).toNat + 16777216 * (bs.getD (a + 3) 0).toNat

theorem rfour_any (A : Option Addr) (n c a : Nat) (bs : List Int) (w : World) (hn : n = bs.length) (hr : ReadsInt w .u8 A n bs) (hw : ∀ x ∈ bs, 0 ≤ x ∧ x ≤ 255) (ha : a + 4 ≤ n) :
    Calls Tryd.prog 26 #[.slice A n c, .int .i64 (a : Int)] w fun e w' => e = .returned (.int .u32 (fourN bs a : Nat)) ∧ ∃ k, w' = w.drewN k := by
  have hm := hr.2.1
  obtain ⟨ad, rfl, h0⟩ := hr.at_ ((a : Nat) : Int) (by omega) (by omega)
  have h1 := (hr.at_ ((a + 1 : Nat) : Int) (by omega) (by omega))
  have h2 := (hr.at_ ((a + 2 : Nat) : Int) (by omega) (by omega))
  have h3 := (hr.at_ ((a + 3 : Nat) : Int) (by omega) (by omega))
  obtain ⟨_, e1, h1⟩ := h1; cases e1
  obtain ⟨_, e2, h2⟩ := h2; cases e2
  obtain ⟨_, e3, h3⟩ := h3; cases e3
  rw [Int.toNat_natCast] at h0 h1 h2 h3
  obtain ⟨x0, hx0⟩ : ∃ x : Nat, rd bs (a : Nat) = (x : Int) := ⟨_, (Int.toNat_of_nonneg (rd_byte bs hw a).1).symm⟩
  obtain ⟨x1, hx1⟩ : ∃ x : Nat, rd bs (a + 1 : Nat) = (x : Int) := ⟨_, (Int.toNat_of_nonneg (rd_byte bs hw (a + 1)).1).symm⟩
  obtain ⟨x2, hx2⟩ : ∃ x : Nat, rd bs (a + 2 : Nat) = (x : Int) := ⟨_, (Int.toNat_of_nonneg (rd_byte bs hw (a + 2)).1).symm⟩
  obtain ⟨x3, hx3⟩ : ∃ x : Nat, rd bs (a + 3 : Nat) = (x : Int) := ⟨_, (Int.toNat_of_nonneg (rd_byte bs hw (a + 3)).1).symm⟩
  have b0 := (rd_byte bs hw a).2
  have b1 := (rd_byte bs hw (a + 1)).2
  have b2 := (rd_byte bs hw (a + 2)).2
  have b3 := (rd_byte bs hw (a + 3)).2
  rw [hx0] at h0 b0
  rw [hx1] at h1 b1
  rw [hx2] at h2 b2
  rw [hx3] at h3 b3
  have HF := Aside0.mk (show fourN bs a = x0 + 256 * x1 + 65536 * x2 + 16777216 * x3 by
    unfold rd at hx0 hx1 hx2 hx3
    rw [Int.toNat_natCast] at hx0 hx1 hx2 hx3
    rw [fourN, hx0, hx1, hx2, hx3]
    rfl)
  have k1 : IntKind.i64.wrap ((a : Int) + 1) = ((a + 1 : Nat) : Int) := by rw [IntWalk.i64_in _ (by omega)]; omega
  have k2 : IntKind.i64.wrap ((a : Int) + 2) = ((a + 2 : Nat) : Int) := by rw [IntWalk.i64_in _ (by omega)]; omega
  have k3 : IntKind.i64.wrap ((a : Int) + 3) = ((a + 3 : Nat) : Int) := by rw [IntWalk.i64_in _ (by omega)]; omega
  clear hr hw hx0 hx1 hx2 hx3 hn
  have l0 : a < n := by omega
  have l1 : a + 1 < n := by omega
  have l2 : a + 2 < n := by omega
  have l3 : a + 3 < n := by omega
  have m1 : (a : Int) + 1 < (n : Int) := by omega
  have z1 : 0 ≤ (a : Int) + 1 := by omega
  have t1 : ((a : Int) + 1).toNat = a + 1 := by omega
  have m2 : (a : Int) + 2 < (n : Int) := by omega
  have z2 : 0 ≤ (a : Int) + 2 := by omega
  have t2 : ((a : Int) + 2).toNat = a + 2 := by omega
  have m3 : (a : Int) + 3 < (n : Int) := by omega
  have z3 : 0 ≤ (a : Int) + 3 := by omega
  have t3 : ((a : Int) + 3).toNat = a + 3 := by omega
  have p1 : ad.add (a + 1) = ⟨ad.block, ad.off + (a + 1), none⟩ := by rw [Addr.add, if_neg (by omega)]
  rw [p1] at h1
  have p2 : ad.add (a + 2) = ⟨ad.block, ad.off + (a + 2), none⟩ := by rw [Addr.add, if_neg (by omega)]
  rw [p2] at h2
  have p3 : ad.add (a + 3) = ⟨ad.block, ad.off + (a + 3), none⟩ := by rw [Addr.add, if_neg (by omega)]
  rw [p3] at h3
  clear p1 p2 p3
  replace h0 := fun k => pw_cell_below (pw_below_drewN (Below.refl w.heap.size w) k) h0
  replace h1 := fun k => pw_cell_below (pw_below_drewN (Below.refl w.heap.size w) k) h1
  replace h2 := fun k => pw_cell_below (pw_below_drewN (Below.refl w.heap.size w) k) h2
  replace h3 := fun k => pw_cell_below (pw_below_drewN (Below.refl w.heap.size w) k) h3
  go_enter Tryd.func26, Tryd.ntmps26
  go_wp2_with fail
  go_quiet (fail)
  go_wp2
  go_ret
  refine ⟨?_, nq, rfl⟩
  show Ending.returned (.int .u32 ((x0 : Int) + x1 * 256 + x2 * 65536 + x3 * 16777216)) = _
  rw [HF.out]
  congr 2
  omega

theorem rfour_new (A : Option Addr) (n c : Nat) (a : Int) (bs : List Int) (w : World) (hn : n = bs.length) (hr : ReadsInt w .u8 A n bs) (hw : ∀ x ∈ bs, 0 ≤ x ∧ x ≤ 255) (h0 : 0 ≤ a) (ha : a + 4 ≤ n) (f : Nat) (hf : Aside0 (fourN bs a.toNat = f)) :
    Calls Tryd.prog 26 #[.slice A n c, .int .i64 a] w fun e w' => e = .returned (.int .u32 (f : Int)) ∧ ∃ k, w' = w.drewN k := by
  obtain ⟨m, rfl⟩ := Int.eq_ofNat_of_zero_le h0
  rw [← hf.out, Int.toNat_natCast]
  exact rfour_any A n c m bs w hn hr hw (by omega)
end Go.Proofs.YtabcaeckoghmpaaDoor
