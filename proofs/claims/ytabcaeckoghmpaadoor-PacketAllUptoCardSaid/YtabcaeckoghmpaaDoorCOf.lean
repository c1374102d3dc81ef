/- crc.Of, the reference's More, Bytes, Place, awake of layer 3. -/
import Derived.Test.YtabcaeckoghmpaaDoorCMore
import Derived.Deep.QuietTactic
import Derived.BigQuiet
namespace Go.Proofs.YtabcaeckoghmpaaDoor
set_option linter.unusedVariables false
set_option linter.unusedSimpArgs false
open Go.RowKit Go.Proofs.YtabcaeckoghmpaaDoorW.PrintWords

theorem inv_inv (s : Nat) (h : s < 4294967296) : inv32 (inv32 s) = s := by unfold inv32; omega
theorem crcF_lt (s : Nat) (l : List Int) : crcF s l < 4294967296 := inv32_lt _
theorem crcF_append (l m : List Int) (hl : ∀ x ∈ l, 0 ≤ x ∧ x ≤ 255) (s : Nat) : crcF s (l ++ m) = crcF (crcF s l) m := by
  unfold crcF
  rw [reg_append, inv_inv _ (reg_lt l hl _ (inv32_lt s))]
theorem crcF_nil (s : Nat) (h : s < 4294967296) : crcF s [] = s := inv_inv s h

theorem str_reads {w : World} {A : Option Addr} {n c : Nat} {xs : List Int} (h : ReadsInt w .u8 A n xs) : (convert 24 9 (.slice A n c)).run Tryd.prog w = .ok (.string (strOfNums xs)) w :=
  string_of_reads Tryd.underlying24 Tryd.underlying5 Tryd.underlying9 h

theorem cmore_new (A : Option Addr) (n c : Nat) (s : Int) (xs : List Int) (w : World) (hn : n = xs.length) (hr : ReadsInt w .u8 A n xs) (h0 : 0 ≤ s) (hs : s < 4294967296) (hw : ∀ x ∈ xs, 0 ≤ x ∧ x ≤ 255) :
    Calls Tryd.prog 32 #[.int .u32 s, .slice A n c] w fun e w' => ∃ r : Int, e = .returned (.int .u32 r) ∧ Aside0 (r = (crcF s.toNat xs : Nat)) ∧ w = w' := by
  obtain ⟨m, rfl⟩ := Int.eq_ofNat_of_zero_le h0
  exact (cmore_any A n c m xs w hn hr (by omega) hw).mono fun _ _ ⟨h1, h2⟩ => ⟨_, h1, ⟨by rw [Int.toNat_natCast]⟩, h2⟩

theorem cof_new (A : Option Addr) (n c : Nat) (xs : List Int) (w : World) (hn : n = xs.length) (hr : ReadsInt w .u8 A n xs) (hw : ∀ x ∈ xs, 0 ≤ x ∧ x ≤ 255) :
    Calls Tryd.prog 21 #[.slice A n c] w fun e w' => ∃ r : Int, e = .returned (.int .u32 r) ∧ Aside0 (r = (crcF 0 xs : Nat)) ∧ w = w' := by
  have HR := Aside0.mk hr
  have HN := Aside0.mk hn
  have HW := Aside0.mk hw
  clear hr hn hw
  go_enter Tryd.func21, Tryd.ntmps21
  go_wp2_with fail
  refine (cmore_new A n c 0 xs _ HN.out HR.out (by decide) (by decide) HW.out).mono ?_
  rintro e w1 ⟨r, rfl, hr, rfl⟩
  go_wp2
  go_ret
  exact ⟨r, rfl, hr, rfl⟩

theorem cof_any (A : Option Addr) (n c : Nat) (xs : List Int) (w : World) (hn : n = xs.length) (hr : ReadsInt w .u8 A n xs) (hw : ∀ x ∈ xs, 0 ≤ x ∧ x ≤ 255) :
    Calls Tryd.prog 21 #[.slice A n c] w fun e w' => e = .returned (.int .u32 (crcF 0 xs : Nat)) ∧ w = w' :=
  (cof_new A n c xs w hn hr hw).mono fun _ _ ⟨r, h1, h2, h3⟩ => ⟨by rw [h1, h2.out], h3⟩
theorem ReadsInt.drawn {w : World} {k : IntKind} {A : Option Addr} {n : Nat} {xs : List Int} (h : ReadsInt w k A n xs) (m : Nat) : ReadsInt (w.drewN m) k A n xs :=
  h.below (pw_below_drewN (Below.refl _ _) m)

/-- Bytes: in new memory. -/
theorem bytes_new (A : Option Addr) (n c : Nat) (xs : List Int) (w : World) (hn : n = xs.length) (hr : ReadsInt w .u8 A n xs) (hl : n ≤ 140737488355328) :
    Calls Tryd.prog 13 #[.slice A n c] w fun e w' => ∃ v' : Value, e = .returned v' ∧ Aside0 (w'.ownsRow w.heap.size 5 1 v' xs.length (nums .u8 xs)) ∧ Aside0 (Below w.heap.size w w') := by
  have HR := Aside0.mk hr
  have HL := Aside0.mk hl
  clear hr hl hn
  go_enter Tryd.func13, Tryd.ntmps13
  go_wp2_with (at_builtin; go_must (refine print_append_row (w0 := w) w.heap.size rfl _ _ 24 5 .u8 1 rfl Tryd.underlying24 info5 (by omega) (.slice none 0 0) [] xs _ _ _ rfl rfl (own_nil _ _ _ _) (by exact HR.out) (by exact Below.refl _ _) (Nat.le_refl _) (by have := HL.out; simp; omega) ?_); intro v1 w1 hown hb1 _ _)
  go_ret
  exact ⟨_, rfl, ⟨by simpa using hown⟩, ⟨hb1⟩⟩
end Go.Proofs.YtabcaeckoghmpaaDoor
