/- The reference's All, Valid, Count, Name. -/
import Derived.Test.YtabcaeckoghmpaaDoorRRefWalk
import Derived.Test.YtabcaeckoghmpaaDoorRName
import Derived.Test.YtabcaeckoghmpaaDoorRRefLetter
namespace Go.Proofs.YtabcaeckoghmpaaDoor
set_option linter.unusedVariables false
set_option linter.unusedSimpArgs false
open Go.RowKit Go.Proofs.YtabcaeckoghmpaaDoorW.PrintWords

theorem infoI32 : (Tryd.prog.info? 21).map (fun i => (i.zero, i.size, i.bytes)) = some (some (.int .i32 0), 1, 4) := by kernel_rfl

def ints (l : List Nat) : List Int := l.map fun (x : Nat) => (x : Int)
theorem ints_length (l : List Nat) : (ints l).length = l.length := List.length_map ..
theorem ints_snoc (l : List Nat) (r : Nat) : ints l ++ [(r : Int)] = ints (l ++ [r]) := by simp [ints]
theorem ints_at (l : List Nat) (i : Nat) : rd (ints l) (i : Int) = ((l.getD i 0 : Nat) : Int) := by
  unfold rd ints
  rw [Int.toNat_natCast, List.getD_eq_getElem?_getD, List.getD_eq_getElem?_getD, List.getElem?_map]
  cases l[i]? <;> rfl

set_option maxRecDepth 100000 in
set_option maxHeartbeats 1000000 in
theorem rall_any (s : ByteArray) (w : World) (hs : s.size ≤ 2097152) :
    Calls Tryd.prog 37 #[.string s] w fun e w' => ∃ (v : Value) (l : List Nat) (ok : Bool), e = .returned (.tuple #[v, .bool ok]) ∧ Aside0 ((ok = true ∧ runesG s = some l) ∨ (ok = false ∧ runesG s = none ∧ l = [])) ∧ Aside0 (w'.ownsRow w.heap.size 21 1 v (ints l).length (nums .i32 (ints l))) ∧ Aside0 (Below w.heap.size w w') := by
  go_enter Tryd.func37, Tryd.ntmps37
  go_wp2_with fail
  go_loopw [4, 5] (fun v u wr => ∃ (pos k : Nat) (acc : List Nat), u = .int .i64 (pos : Int) ∧ pos ≤ s.size ∧ Aside0 ((runesF s k pos).map (acc ++ ·) = runesG s) ∧ Aside0 (s.size ≤ pos + k) ∧ acc.length ≤ pos ∧ Aside0 (wr.ownsRow w.heap.size 21 1 v (ints acc).length (nums .i32 (ints acc))) ∧ Aside0 (Below w.heap.size w wr)) (fun _ u _ => s.size - (intOf u).toNat)
  case atStart => exact ⟨0, s.size, [], rfl, by omega, ⟨by rw [show runesF s s.size 0 = runesG s from rfl]; cases runesG s <;> simp⟩, ⟨by omega⟩, by simp, ⟨own_nil _ _ _ _⟩, ⟨Below.refl _ _⟩⟩
  case round =>
    obtain ⟨pos, k, acc, rfl, hpos, HG, HF, hacc, HO, HB⟩ := hrel
    by_cases hp : pos < s.size
    · obtain ⟨r, n, hd⟩ : ∃ r n, Utf8.decode s pos = (r, n) := ⟨_, _, rfl⟩
      have hn1 := dec_pos s pos hp
      have hn2 := dec_le s pos hp
      rw [hd] at hn1 hn2
      simp only at hn1 hn2
      obtain ⟨k, rfl⟩ : ∃ k', k = k' + 1 := ⟨k - 1, by have := HF.out; omega⟩
      have hst := HG.out
      rw [runesF_step s k pos hp, hd] at hst
      simp only at hst
      by_cases hb : r = 65533 ∧ n < 2
      · have HN : Aside0 (nextG s (pos : Int) = (0, 0, false)) := ⟨by rw [nextG, if_neg (by omega), Int.toNat_natCast, hd, if_pos hb]⟩
        rw [if_pos hb] at hst
        have HST := Aside0.mk hst
        clear hst hd hb
        go_wp2_with fail
        refine (rnext_at s pos _ (by omega) 0 0 false HN).mono ?_
        rintro e w1 ⟨rfl, rfl⟩
        go_wp2
        go_ret2
        exact ⟨_, [], false, rfl, ⟨.inr ⟨rfl, HST.out.symm, rfl⟩⟩, ⟨own_nil _ _ _ _⟩, HB⟩
      · have HN : Aside0 (nextG s (pos : Int) = (r, n, true)) := ⟨by rw [nextG, if_neg (by omega), Int.toNat_natCast, hd, if_neg hb]⟩
        rw [if_neg hb] at hst
        have HST := Aside0.mk (show (runesF s k (pos + n)).map ((acc ++ [r]) ++ ·) = runesG s by
          rw [← hst, Option.map_map]
          congr 1
          funext x
          simp)
        have hr32 : r ≤ 1114111 := hn2.2.2
        have hil := Aside0.mk (ints_length acc)
        have hal : ((ints acc).length + 1) * 4 ≤ 140737488355328 := by rw [hil.out]; omega
        clear hst hd hb
        go_wp2_with fail
        refine (rnext_at s pos _ (by omega) r n true HN).mono ?_
        rintro e w1 ⟨rfl, rfl⟩
        have HAL := Aside0.mk hal
        clear hal
        go_wp2_with (at_builtin; go_must (refine print_append_num (w0 := w) w.heap.size rfl _ _ 56 21 .i32 4 rfl Tryd.underlying56 infoI32 (by omega) _ (ints acc) (r : Int) rfl rfl (by exact HO.out) (by exact HB.out) (by exact HB.out.size) HAL.out ?_); rintro v3 w3 ho3 hb3 _ _; rw [ints_snoc] at ho3; have HO3 := Aside0.mk ho3; have HB3 := Aside0.mk hb3; clear ho3 hb3)
        go_roundw
        case rel => exact ⟨pos + n, k, acc ++ [r], by go_num, hn2.1, HST, ⟨by have := HF.out; omega⟩, by simp; omega, HO3, HB3⟩
        case measure => simp [intOf]; omega
    · have hgs : runesG s = some acc := by
        have h := HG.out
        rw [runesF_end s k pos hp] at h
        rw [← h]
        simp
      have HGS := Aside0.mk hgs
      clear hgs
      go_wp2
      go_ret2
      exact ⟨_, acc, true, rfl, ⟨.inl ⟨rfl, HGS.out⟩⟩, HO, HB⟩

end Go.Proofs.YtabcaeckoghmpaaDoor
