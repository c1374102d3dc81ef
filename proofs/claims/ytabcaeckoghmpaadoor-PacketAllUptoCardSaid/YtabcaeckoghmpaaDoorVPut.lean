/- vint.Put: what it puts behind a slice of bytes. -/
import Derived.Test.YtabcaeckoghmpaaDoorBits
import Derived.IntWalk
import Derived.Deep.DeepMust
namespace Go.Proofs.YtabcaeckoghmpaaDoor
set_option linter.unusedVariables false
set_option linter.unusedSimpArgs false
open Go.RowKit Go.Proofs.YtabcaeckoghmpaaDoorW.PrintWords

/-- The bytes of a number, seven bits a byte, the lowest first. -/
def enc : Nat → Nat → List Int
  | 0, _ => []
  | k + 1, v => if v < 128 then [(v : Int)] else ((v % 128 + 128 : Nat) : Int) :: enc k (v / 128)

theorem enc_small (k n : Nat) (h : n < 128) : enc (k + 1) n = [(n : Int)] := by rw [enc, if_pos h]
theorem enc_great (k n : Nat) (h : ¬ n < 128) : enc (k + 1) n = ((n % 128 + 128 : Nat) : Int) :: enc k (n / 128) := by rw [enc, if_neg h]

set_option maxRecDepth 100000 in
theorem vput_any (A : Option Addr) (c : Nat) (xs : List Int) (v : Nat) (w : World) (hr : ReadsInt w .u8 A xs.length xs) (hc : xs.length ≤ c) (hv : v < 18446744073709551616)
    (hl : xs.length + 10 ≤ 140737488355328) :
    Calls Tryd.prog 20 #[.slice A xs.length c, .int .u64 v] w fun e w' => ∃ v', e = .returned v' ∧ w'.ownsRow w.heap.size 5 1 v' (xs ++ enc 10 v).length (nums .u8 (xs ++ enc 10 v)) ∧ Below w.heap.size w w' := by
  go_enter Tryd.func20, Tryd.ntmps20
  go_wp2
  go_loopw [0, 1] (fun s u wr => ∃ (ys : List Int) (n k : Nat), u = .int .u64 n ∧ n < 128 ^ (k + 1) ∧ ys.length + k + 1 = xs.length + 10 ∧ Ext .u8 5 wr w.heap.size s ys ∧ ys ++ enc (k + 1) n = xs ++ enc 10 v ∧ Below w.heap.size w wr) (fun _ u _ => (intOf u).toNat)
  case atStart => exact ⟨xs, v, 9, rfl, by omega, rfl, .inl ⟨A, rfl, hr⟩, rfl, Below.refl _ _⟩
  case round =>
    obtain ⟨ys, n, k, rfl, hn, hk, hext, heq, hb⟩ := hrel
    have Hn := Aside0.mk hn
    have Hk := Aside0.mk hk
    have Hext := Aside0.mk hext
    have Heq := Aside0.mk heq
    have Hb := Aside0.mk hb
    have Hr := Aside0.mk hr
    have Hv := Aside0.mk hv
    have Hl := Aside0.mk hl
    clear hn hk hext heq hb hr hv hl
    have hl' : ys.length + 1 ≤ 140737488355328 := by have := Hk.out; have := Hl.out; omega
    by_cases hlt : n < 128
    · have Hp := Aside0.mk (enc_small k n hlt)
      go_wp2_with (at_builtin; go_must (refine append_ext (w0 := w) w.heap.size rfl _ _ 24 5 .u8 1 rfl Tryd.underlying24 info5 (by omega) _ ys _ rfl rfl (by exact Hext.out) Hb.out Hb.out.size (by simpa using hl') ?_); intro v1 w1 hown hb1)
      go_ret
      have e : ys ++ [(n : Int)] = xs ++ enc 10 v := by rw [← Heq.out, Hp.out]
      rw [e] at hown
      exact ⟨_, rfl, hown, hb1⟩
    · have Hp := Aside0.mk (enc_great k n hlt)
      go_wp2_with (at_builtin; go_must (refine append_ext (w0 := w) w.heap.size rfl _ _ 24 5 .u8 1 rfl Tryd.underlying24 info5 (by omega) _ ys _ rfl rfl (by exact Hext.out) Hb.out Hb.out.size (by simpa using hl') ?_); intro v1 w1 hown hb1)
      go_roundw
      case rel =>
        rw [or128] at hown
        cases k with
        | zero => have := Hn.out; omega
        | succ k =>
          refine ⟨_, n / 128, k, by simp, ?_, ?_, Ext.own hown, ?_, hb1⟩
          · have := Hn.out
            rw [Nat.div_lt_iff_lt_mul (by omega)]
            rwa [Nat.pow_succ] at this
          · have := Hk.out
            simp only [List.length_append, List.length_singleton]
            omega
          · rw [← Heq.out, Hp.out, List.append_assoc]
            rfl
      case measure =>
        simp [intOf]
        omega

/-- The same, the row's list under a name of its own. -/
theorem vput_new (A : Option Addr) (c : Nat) (xs : List Int) (v : Nat) (w : World) (hr : ReadsInt w .u8 A xs.length xs) (hc : xs.length ≤ c) (hv : v < 18446744073709551616)
    (hl : xs.length + 10 ≤ 140737488355328) :
    Calls Tryd.prog 20 #[.slice A xs.length c, .int .u64 v] w fun e w' => ∃ (v' : Value) (zs : List Int), e = .returned v' ∧ Aside0 (zs = xs ++ enc 10 v) ∧ Aside0 (w'.ownsRow w.heap.size 5 1 v' zs.length (nums .u8 zs)) ∧ Aside0 (Below w.heap.size w w') :=
  (vput_any A c xs v w hr hc hv hl).mono fun _ _ ⟨v', h1, h2, h3⟩ => ⟨v', _, h1, ⟨rfl⟩, ⟨h2⟩, ⟨h3⟩⟩

/-- The same, at an Int. -/
theorem vput_int (A : Option Addr) (c : Nat) (xs : List Int) (v : Int) (w : World) (hr : ReadsInt w .u8 A xs.length xs) (hc : xs.length ≤ c) (h0 : 0 ≤ v) (hv : v < 18446744073709551616)
    (hl : xs.length + 10 ≤ 140737488355328) :
    Calls Tryd.prog 20 #[.slice A xs.length c, .int .u64 v] w fun e w' => ∃ (v' : Value) (zs : List Int), e = .returned v' ∧ Aside0 (zs = xs ++ enc 10 v.toNat) ∧ Aside0 (w'.ownsRow w.heap.size 5 1 v' zs.length (nums .u8 zs)) ∧ Aside0 (Below w.heap.size w w') := by
  obtain ⟨m, rfl⟩ := Int.eq_ofNat_of_zero_le h0
  rw [Int.toNat_natCast]
  exact vput_new A c xs m w hr hc (by omega) hl
end Go.Proofs.YtabcaeckoghmpaaDoor
