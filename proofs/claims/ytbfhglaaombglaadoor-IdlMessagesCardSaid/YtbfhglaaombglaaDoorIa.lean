/- Texts laid together by a program of this claim's, without the theorems that it does not use. -/
import Derived.Test.YtbfhglaaombglaaDoorProg
import Derived.Below
import Derived.ArgAppend
import Derived.Deep.Draws
import Derived.Deep.AppendLies
import Derived.OwnWalk
import Derived.Deep.DeepMust
import Derived.WalkKit
import Derived.KernelRfl
import Derived.Laws.OwnMore
import Derived.Laws.MakeOwn
import Derived.Laws.BytesArg
import Derived.Lib.Hide
import Derived.Deep.QuietTactic
import Derived.BigQuiet
import Derived.Test.YtbfhglaaombglaaDoorIw
import Derived.Shelf.Small.Strs
import Derived.Shelf.Strings.Search1
import Derived.Shelf.Strings.Prefix
import Derived.Shelf.Unicode.Decode
import Derived.Shelf.Unicode.DecodeSlow
import Derived.Shelf.Unicode.DecodeAny
import Derived.Lib.RuneCountTail
import Derived.Lib.OthersKept
import Derived.IntWalk
section
namespace Go.Proofs.YtbfhglaaombglaaDoor
set_option linter.unusedVariables false
set_option linter.unusedSimpArgs false
open Go.RowKit Go.Proofs.YtbfhglaaombglaaDoorW.PrintWords
/-- A slice of numbers to which may be appended without a store into what was there: it has no room, or it is the call's own. -/
def Ext (k : IntKind) (E : TypeId) (w : World) (base : Nat) (v : Value) (xs : List Int) : Prop :=
  (∃ A, v = .slice A xs.length xs.length ∧ ReadsInt w k A xs.length xs) ∨ w.ownsRow base E 1 v xs.length (nums k xs)
section
variable {P : Program} {ops : Array Oper} {rest : List Oper} {o : Oper} {a : Act} {Q : Exit → Act → World → Prop}
end
/-- A world in which what was there is as it was. -/
structure Later (w : World) where mk ::
  (now : World)
  (below : Below w.heap.size w now)
end Go.Proofs.YtbfhglaaombglaaDoor
end
section
namespace Go.Proofs
open Go.Shelf
def Tryd.lays137_ren : Go.Shelf.Ren := ⟨fun | 137 => 49 | 217 => 62 | 266 => 67 | n => n, fun | 9 => 9 | 5 => 5 | 3 => 3 | n => n, fun | n => n⟩
theorem Tryd.lays137 : Go.Proofs.Lays.n137 Tryd.prog Tryd.lays137_ren := {
  mixed := by kernel_rfl
  f137 := Tryd.func49.trans (congrArg some (by kernel_rfl))
  f217 := Tryd.func62.trans (congrArg some (by kernel_rfl))
  f266 := Tryd.func67.trans (congrArg some (by kernel_rfl))
  t3 := Tryd.underlying3
  a3 := Tryd.isAgg3
  z3 := Tryd.sizeOf3
  v3 := Tryd.zeroValue3
  t5 := Tryd.underlying5
  a5 := Tryd.isAgg5
  z5 := Tryd.sizeOf5
  v5 := Tryd.zeroValue5
  t9 := Tryd.underlying9
  a9 := Tryd.isAgg9
  z9 := Tryd.sizeOf9
  v9 := Tryd.zeroValue9 }
open Go.RowKit in
theorem Tryd.strings_IndexByte (s : ByteArray) (c : Int) (w : World) :
    Calls Tryd.prog 49 #[.string s, .int .u8 c] w fun e w' => e = .returned (.int .i64 (Lib.indexByte s.data.toList c.toNat.toUInt8)) ∧ w' = w := Any.strings_IndexByte Tryd.lays137 s c w
def Tryd.lays217_ren : Go.Shelf.Ren := ⟨fun | 217 => 62 | 266 => 67 | n => n, fun | 9 => 9 | 5 => 5 | 3 => 3 | n => n, fun | n => n⟩
def Tryd.lays206_ren : Go.Shelf.Ren := ⟨fun | 206 => 50 | n => n, fun | 9 => 9 | 4 => 4 | 3 => 3 | n => n, fun | n => n⟩
def Tryd.lays99_ren : Go.Shelf.Ren := ⟨fun | 99 => 26 | 206 => 50 | n => n, fun | 9 => 9 | 4 => 4 | 3 => 3 | n => n, fun | n => n⟩
theorem Tryd.lays99 : Go.Proofs.Lays.n99 Tryd.prog Tryd.lays99_ren := {
  mixed := by kernel_rfl
  f99 := Tryd.func26.trans (congrArg some (by kernel_rfl))
  f206 := Tryd.func50.trans (congrArg some (by kernel_rfl))
  t3 := Tryd.underlying3
  a3 := Tryd.isAgg3
  z3 := Tryd.sizeOf3
  v3 := Tryd.zeroValue3
  t4 := Tryd.underlying4
  a4 := Tryd.isAgg4
  z4 := Tryd.sizeOf4
  v4 := Tryd.zeroValue4
  t9 := Tryd.underlying9
  a9 := Tryd.isAgg9
  z9 := Tryd.sizeOf9
  v9 := Tryd.zeroValue9 }
open Go.RowKit Go.Lib in
theorem Tryd.strings_HasPrefix (s p : ByteArray) (w : World) :
    Calls Tryd.prog 26 #[.string s, .string p] w fun e w' => e = .returned (.bool (Lib.hasPrefix s.data.toList p.data.toList)) ∧ w' = w := Any.strings_HasPrefix Tryd.lays99 s p w
def Tryd.lays197_ren : Go.Shelf.Ren := ⟨fun | 197 => 48 | 260 => 61 | n => n, fun | 9 => 9 | 21 => 21 | 3 => 3 | 4 => 4 | 5 => 5 | 105 => 92 | 119 => 106 | 0 => 0 | 46 => 107 | 139 => 110 | 138 => 109 | n => n, fun | 3 => 0 | 4 => 1 | n => n⟩
theorem Tryd.lays197 : Go.Proofs.Lays.n197 Tryd.prog Tryd.lays197_ren := {
  mixed := by kernel_rfl
  f197 := Tryd.func48.trans (congrArg some (by kernel_rfl))
  f260 := Tryd.func61.trans (congrArg some (by kernel_rfl))
  t0 := Tryd.underlying0
  a0 := Tryd.isAgg0
  z0 := Tryd.sizeOf0
  v0 := Tryd.zeroValue0
  t3 := Tryd.underlying3
  a3 := Tryd.isAgg3
  z3 := Tryd.sizeOf3
  v3 := Tryd.zeroValue3
  t4 := Tryd.underlying4
  a4 := Tryd.isAgg4
  z4 := Tryd.sizeOf4
  v4 := Tryd.zeroValue4
  t5 := Tryd.underlying5
  a5 := Tryd.isAgg5
  z5 := Tryd.sizeOf5
  v5 := Tryd.zeroValue5
  t9 := Tryd.underlying9
  a9 := Tryd.isAgg9
  z9 := Tryd.sizeOf9
  v9 := Tryd.zeroValue9
  t21 := Tryd.underlying21
  a21 := Tryd.isAgg21
  z21 := Tryd.sizeOf21
  v21 := Tryd.zeroValue21
  t46 := Tryd.underlying107
  a46 := Tryd.isAgg107
  z46 := Tryd.sizeOf107
  v46 := Tryd.zeroValue107
  t105 := Tryd.underlying92
  a105 := Tryd.isAgg92
  z105 := Tryd.sizeOf92
  v105 := Tryd.zeroValue92
  t119 := Tryd.underlying106
  a119 := Tryd.isAgg106
  z119 := Tryd.sizeOf106
  t138 := Tryd.underlying109
  a138 := Tryd.isAgg109
  z138 := Tryd.sizeOf109
  v138 := Tryd.zeroValue109
  t139 := Tryd.underlying110
  a139 := Tryd.isAgg110
  z139 := Tryd.sizeOf110
  v139 := Tryd.zeroValue110
  g3 := by kernel_rfl
  g4 := by kernel_rfl }
def Tryd.lays260_ren : Go.Shelf.Ren := ⟨fun | 260 => 61 | n => n, fun | 9 => 9 | 21 => 21 | 3 => 3 | 4 => 4 | 5 => 5 | 119 => 106 | 0 => 0 | 46 => 107 | 139 => 110 | 138 => 109 | n => n, fun | 3 => 0 | 4 => 1 | n => n⟩
theorem Tryd.lays260 : Go.Proofs.Lays.n260 Tryd.prog Tryd.lays260_ren := {
  mixed := by kernel_rfl
  f260 := Tryd.func61.trans (congrArg some (by kernel_rfl))
  t0 := Tryd.underlying0
  a0 := Tryd.isAgg0
  z0 := Tryd.sizeOf0
  v0 := Tryd.zeroValue0
  t3 := Tryd.underlying3
  a3 := Tryd.isAgg3
  z3 := Tryd.sizeOf3
  v3 := Tryd.zeroValue3
  t4 := Tryd.underlying4
  a4 := Tryd.isAgg4
  z4 := Tryd.sizeOf4
  v4 := Tryd.zeroValue4
  t5 := Tryd.underlying5
  a5 := Tryd.isAgg5
  z5 := Tryd.sizeOf5
  v5 := Tryd.zeroValue5
  t9 := Tryd.underlying9
  a9 := Tryd.isAgg9
  z9 := Tryd.sizeOf9
  v9 := Tryd.zeroValue9
  t21 := Tryd.underlying21
  a21 := Tryd.isAgg21
  z21 := Tryd.sizeOf21
  v21 := Tryd.zeroValue21
  t46 := Tryd.underlying107
  a46 := Tryd.isAgg107
  z46 := Tryd.sizeOf107
  v46 := Tryd.zeroValue107
  t119 := Tryd.underlying106
  a119 := Tryd.isAgg106
  z119 := Tryd.sizeOf106
  t138 := Tryd.underlying109
  a138 := Tryd.isAgg109
  z138 := Tryd.sizeOf109
  v138 := Tryd.zeroValue109
  t139 := Tryd.underlying110
  a139 := Tryd.isAgg110
  z139 := Tryd.sizeOf110
  v139 := Tryd.zeroValue110
  g3 := by kernel_rfl
  g4 := by kernel_rfl }
open Go.RowKit Go.Lib in
theorem Tryd.utf8_DecodeRuneInString (s : ByteArray) (w : World) (hT : Lib.Utf8Tabs 0 1 w) :
    Calls Tryd.prog 48 #[.string s] w fun e w' => e = .returned (.tuple #[.int .i32 (Lib.decodeGo s).1, .int .i64 (Lib.decodeGo s).2]) ∧ Below w.heap.size w w' := Any.utf8_DecodeRuneInString Tryd.lays197 s w hT
end Go.Proofs
end
section
namespace Go.Proofs.YtbfhglaaombglaaDoor
set_option linter.unusedVariables false
set_option linter.unusedSimpArgs false
open Go.RowKit Go.Proofs.YtbfhglaaombglaaDoorW.PrintWords
abbrev Tabs (w : World) : Prop := Lib.Utf8Tabs 0 1 w
theorem tabs_below {w w1 : World} (h : Tabs w) (hb : Below w.heap.size w w1) : Tabs w1 :=
  ⟨fun c hc => pw_cell_below hb (h.1 c hc), fun i hi => ⟨pw_cell_below hb (h.2 i hi).1, pw_cell_below hb (h.2 i hi).2⟩⟩
/-- Which rune stands at a place, how many bytes it has, whether there is one. -/
def nextG (s : ByteArray) (a : Int) : Nat × Nat × Bool :=
  if a < 0 ∨ (s.size : Int) ≤ a then (0, 0, false)
  else if (Utf8.decode s a.toNat).1 = 65533 ∧ (Utf8.decode s a.toNat).2 < 2 then (0, 0, false)
  else ((Utf8.decode s a.toNat).1, (Utf8.decode s a.toNat).2, true)
theorem next_at (s : ByteArray) (a : Int) (w : World) (hs : s.size ≤ 9223372036854775807) (hT : Tabs w) (r n : Nat) (ok : Bool) (hG : Aside0 (nextG s a = (r, n, ok))) :
    Calls Tryd.prog 24 #[.string s, .int .i64 a] w fun e w' => e = .returned (.tuple #[.int .i32 (r : Int), .int .i64 (n : Int), .bool ok]) ∧ Below w.heap.size w w' := by
  have HT := Aside0.mk hT
  clear hT
  by_cases h0 : a < 0
  · have e := hG.out
    rw [nextG, if_pos (.inl h0)] at e
    simp only [Prod.mk.injEq] at e
    obtain ⟨rfl, rfl, rfl⟩ := e
    go_enter Tryd.func24, Tryd.ntmps24
    go_wp2
    go_ret3
    exact ⟨rfl, Below.refl _ _⟩
  · by_cases h1 : (s.size : Int) ≤ a
    · have e := hG.out
      rw [nextG, if_pos (.inr h1)] at e
      simp only [Prod.mk.injEq] at e
      obtain ⟨rfl, rfl, rfl⟩ := e
      go_enter Tryd.func24, Tryd.ntmps24
      go_wp2
      go_ret3
      exact ⟨rfl, Below.refl _ _⟩
    · obtain ⟨i, rfl⟩ := Int.eq_ofNat_of_zero_le (show 0 ≤ a by omega)
      have hi : i < s.size := by omega
      obtain ⟨t, ht⟩ : ∃ t, s.extract i s.size = t := ⟨_, rfl⟩
      obtain ⟨r1, n1, hd⟩ : ∃ r n, Utf8.decode s i = (r, n) := ⟨_, _, rfl⟩
      have HD := Aside0.mk (show Lib.decodeGo t = (r1, n1) by
        have h2 : t.size = s.size - i := by rw [← ht, ByteArray.size_extract]; omega
        rw [Lib.decodeGo, if_neg (by omega), ← ht]
        have h3 := Lib.tail_decode s i 0
        rw [Nat.add_zero] at h3
        rw [h3, hd])
      have HG : (if r1 = 65533 ∧ n1 < 2 then (0, 0, false) else (r1, n1, true)) = (r, n, ok) := by
        have h := hG.out
        rw [nextG, if_neg (by omega), Int.toNat_natCast, hd] at h
        exact h
      clear hd hG
      by_cases hb : r1 = 65533 ∧ n1 < 2
      · rw [if_pos hb] at HG
        simp only [Prod.mk.injEq] at HG
        obtain ⟨rfl, rfl, rfl⟩ := HG
        obtain ⟨rfl, hb2⟩ := hb
        go_enter Tryd.func24, Tryd.ntmps24
        go_wp2_with fail
        refine (Tryd.utf8_DecodeRuneInString t _ HT.out).mono ?_
        rintro e w1 ⟨rfl, hB⟩
        have HB := Aside0.mk hB
        clear hB
        rw [HD.out]
        go_wp2
        go_ret3
        exact ⟨rfl, HB.out⟩
      · rw [if_neg hb] at HG
        simp only [Prod.mk.injEq] at HG
        obtain ⟨rfl, rfl, rfl⟩ := HG
        by_cases hr : r1 = 65533
        · have hn : ¬ n1 < 2 := fun h => hb ⟨hr, h⟩
          subst hr
          clear hb
          go_enter Tryd.func24, Tryd.ntmps24
          go_wp2_with fail
          refine (Tryd.utf8_DecodeRuneInString t _ HT.out).mono ?_
          rintro e w1 ⟨rfl, hB⟩
          have HB := Aside0.mk hB
          clear hB
          rw [HD.out]
          go_wp2
          go_ret3
          exact ⟨rfl, HB.out⟩
        · have hr2 : ((r1 : Int) == 65533) = false := by rw [beq_eq_false_iff_ne]; omega
          clear hb
          go_enter Tryd.func24, Tryd.ntmps24
          go_wp2_with fail
          refine (Tryd.utf8_DecodeRuneInString t _ HT.out).mono ?_
          rintro e w1 ⟨rfl, hB⟩
          have HB := Aside0.mk hB
          clear hB
          rw [HD.out]
          go_wp2
          go_ret3
          exact ⟨rfl, HB.out⟩
end Go.Proofs.YtbfhglaaombglaaDoor
end
section
namespace Go.Proofs.YtbfhglaaombglaaDoor
set_option linter.unusedVariables false
set_option linter.unusedSimpArgs false
open Go.RowKit Go.Proofs.YtbfhglaaombglaaDoorW.PrintWords
/-- The byte at a place. -/
def bt8 (s : ByteArray) (i : Nat) : Nat := (s.get! i).toNat
theorem bt8_lt (s : ByteArray) (i : Nat) : bt8 s i < 256 := (s.get! i).toNat_lt
theorem bt8_at (s : ByteArray) (i : Nat) (h : i < s.size) : (s[i]'h).toNat = bt8 s i := by rw [bt8, Utf8W.get!_of_lt s i h]
/-- Six bits of a byte that goes on. -/
def tailF (s : ByteArray) (i : Nat) : Int := if s.size ≤ i ∨ bt8 s i < 128 ∨ 191 < bt8 s i then -1 else (bt8 s i : Int) - 128
/-- The value after so many bytes. -/
def valF (s : ByteArray) (a v0 : Nat) : Nat → Nat
  | 0 => v0
  | k + 1 => 64 * valF s a v0 k + (tailF s (a + (k + 1))).toNat
end Go.Proofs.YtbfhglaaombglaaDoor
end
section
namespace Go.Proofs.YtbfhglaaombglaaDoor
set_option linter.unusedVariables false
set_option linter.unusedSimpArgs false
open Go.RowKit Go.Proofs.YtbfhglaaombglaaDoorW.PrintWords
theorem dec_pos (s : ByteArray) (p : Nat) (h : p < s.size) : 1 ≤ (Utf8.decode s p).2 := by
  rw [Lib.decode_at]
  unfold Lib.decodeN
  repeat' split
  all_goals simp
theorem dec_le (s : ByteArray) (p : Nat) (h : p < s.size) : p + (Utf8.decode s p).2 ≤ s.size ∧ (Utf8.decode s p).2 ≤ 4 ∧ (Utf8.decode s p).1 ≤ 1114111 := by
  rw [Lib.decode_at]
  have h0 := (s.get! p).toNat_lt
  unfold Lib.decodeN
  repeat' split
  all_goals simp only
  all_goals omega
theorem iter_pos {w : World} {k : Nat} {s : ByteArray} {p : Nat} (h : w.heap[k]? = some (.stringIter s p)) : w.iterPos k = p := by simp [World.iterPos, h]
end Go.Proofs.YtbfhglaaombglaaDoor
end
section
namespace Go.Proofs.YtbfhglaaombglaaDoor
set_option linter.unusedVariables false
set_option linter.unusedSimpArgs false
open Go.RowKit Go.Proofs.YtbfhglaaombglaaDoorW.PrintWords
def inF (r a b : Int) : Bool := decide (a ≤ r) && decide (r ≤ b)
def letterF (r : Int) : Bool := r == 95 || (!(r == 215) && (!(r == 247) && (!(r == 930) && (inF r 97 122 || (inF r 65 90 || (inF r 192 591 || inF r 913 969))))))
def digitF (r : Int) : Bool := inF r 48 57
theorem in_any (r a b : Int) (v : Bool) (w : World) (hv : Aside0 (inF r a b = v)) : Calls Tryd.prog 51 #[.int .i32 r, .int .i32 a, .int .i32 b] w fun e w' => e = .returned (.bool v) ∧ w = w' := by
  have h := hv.out
  rw [inF] at h
  by_cases h1 : a ≤ r
  · by_cases h2 : r ≤ b
    · rw [decide_eq_true h1, decide_eq_true h2] at h
      subst h
      clear hv
      go_enter Tryd.func51, Tryd.ntmps51
      go_wp2
      go_ret
      exact ⟨rfl, rfl⟩
    · rw [decide_eq_true h1, decide_eq_false h2] at h
      subst h
      clear hv
      go_enter Tryd.func51, Tryd.ntmps51
      go_wp2
      go_ret
      exact ⟨rfl, rfl⟩
  · rw [decide_eq_false h1] at h
    subst h
    clear hv
    go_enter Tryd.func51, Tryd.ntmps51
    go_wp2
    go_ret
    exact ⟨rfl, rfl⟩
theorem digit_any (r : Int) (w : World) (v : Bool) (hv : Aside0 (digitF r = v)) : Calls Tryd.prog 31 #[.int .i32 r] w fun e w' => e = .returned (.bool v) ∧ w = w' := by
  go_enter Tryd.func31, Tryd.ntmps31
  go_wp2_with fail
  refine (in_any r 48 57 v _ hv).mono ?_
  rintro e w1 ⟨rfl, rfl⟩
  go_wp2
  go_ret
  exact ⟨rfl, rfl⟩
set_option maxRecDepth 100000 in
theorem letter_any (r : Int) (w : World) (v : Bool) (hv : Aside0 (letterF r = v)) : Calls Tryd.prog 29 #[.int .i32 r] w fun e w' => e = .returned (.bool v) ∧ w = w' := by
  obtain ⟨c0, h0⟩ : ∃ b, (r == 95) = b := ⟨_, rfl⟩
  obtain ⟨c1, h1⟩ : ∃ b, (r == 215) = b := ⟨_, rfl⟩
  obtain ⟨c2, h2⟩ : ∃ b, (r == 247) = b := ⟨_, rfl⟩
  obtain ⟨c3, h3⟩ : ∃ b, (r == 930) = b := ⟨_, rfl⟩
  obtain ⟨b1, H1⟩ : ∃ b, Aside0 (inF r 97 122 = b) := ⟨_, ⟨rfl⟩⟩
  obtain ⟨b2, H2⟩ : ∃ b, Aside0 (inF r 65 90 = b) := ⟨_, ⟨rfl⟩⟩
  obtain ⟨b3, H3⟩ : ∃ b, Aside0 (inF r 192 591 = b) := ⟨_, ⟨rfl⟩⟩
  obtain ⟨b4, H4⟩ : ∃ b, Aside0 (inF r 913 969 = b) := ⟨_, ⟨rfl⟩⟩
  have h := hv.out
  rw [letterF, h0, h1, h2, h3, H1.out, H2.out, H3.out, H4.out] at h
  clear hv
  cases c0 with
  | true =>
    simp only [Bool.true_or] at h
    subst h
    go_enter Tryd.func29, Tryd.ntmps29
    go_wp2
    go_ret
    exact ⟨rfl, rfl⟩
  | false =>
    cases c1 with
    | true =>
      simp only [Bool.false_or, Bool.not_true, Bool.false_and] at h
      subst h
      go_enter Tryd.func29, Tryd.ntmps29
      go_wp2
      go_ret
      exact ⟨rfl, rfl⟩
    | false =>
      cases c2 with
      | true =>
        simp only [Bool.false_or, Bool.not_true, Bool.false_and, Bool.and_false] at h
        subst h
        go_enter Tryd.func29, Tryd.ntmps29
        go_wp2
        go_ret
        exact ⟨rfl, rfl⟩
      | false =>
        cases c3 with
        | true =>
          simp only [Bool.false_or, Bool.not_true, Bool.false_and, Bool.and_false] at h
          subst h
          go_enter Tryd.func29, Tryd.ntmps29
          go_wp2
          go_ret
          exact ⟨rfl, rfl⟩
        | false =>
          simp only [Bool.false_or, Bool.not_false, Bool.true_and] at h
          go_enter Tryd.func29, Tryd.ntmps29
          go_wp2_with fail
          refine (in_any r 97 122 b1 _ H1).mono ?_
          rintro e w1 ⟨rfl, rfl⟩
          cases b1 with
          | true => simp only [Bool.true_or] at h; subst h; go_wp2; go_ret; exact ⟨rfl, rfl⟩
          | false =>
            simp only [Bool.false_or] at h
            go_wp2_with fail
            refine (in_any r 65 90 b2 _ H2).mono ?_
            rintro e w1 ⟨rfl, rfl⟩
            cases b2 with
            | true => simp only [Bool.true_or] at h; subst h; go_wp2; go_ret; exact ⟨rfl, rfl⟩
            | false =>
              simp only [Bool.false_or] at h
              go_wp2_with fail
              refine (in_any r 192 591 b3 _ H3).mono ?_
              rintro e w1 ⟨rfl, rfl⟩
              cases b3 with
              | true => simp only [Bool.true_or] at h; subst h; go_wp2; go_ret; exact ⟨rfl, rfl⟩
              | false =>
                simp only [Bool.false_or] at h
                subst h
                go_wp2_with fail
                refine (in_any r 913 969 b4 _ H4).mono ?_
                rintro e w1 ⟨rfl, rfl⟩
                go_wp2
                go_ret
                exact ⟨rfl, rfl⟩
end Go.Proofs.YtbfhglaaombglaaDoor
end
section
namespace Go.Proofs.YtbfhglaaombglaaDoor
set_option linter.unusedVariables false
set_option linter.unusedSimpArgs false
open Go.RowKit Go.Proofs.YtbfhglaaombglaaDoorW.PrintWords
theorem bt8_list (s : ByteArray) (i : Nat) : bt8 s i = (s.data.toList.getD i 0).toNat := by
  obtain ⟨d⟩ := s
  show (d[i]!).toNat = (d.toList.getD i 0).toNat
  rw [List.getD_eq_getElem?_getD, Array.getElem?_toList, getElem!_def]
  cases d[i]? with
  | none => rfl
  | some x => rfl
/-- A text's bytes. -/
def bs (s : ByteArray) : List Nat := s.data.toList.map UInt8.toNat
theorem bs_length (s : ByteArray) : (bs s).length = s.size := by rw [bs, List.length_map]; exact Array.length_toList
theorem bs_getD (s : ByteArray) (i : Nat) : (bs s).getD i 0 = bt8 s i := by
  rw [bt8_list, bs, List.getD_eq_getElem?_getD, List.getD_eq_getElem?_getD, List.getElem?_map]
  cases s.data.toList[i]? <;> rfl
theorem bs_append (s t : ByteArray) : bs (s ++ t) = bs s ++ bs t := by simp [bs]
theorem bs_extract (s : ByteArray) (a b : Nat) : bs (s.extract a b) = ((bs s).drop a).take (b - a) := by
  simp only [bs, ByteArray.data_extract, Array.toList_extract, List.extract_eq_take_drop, List.map_take, List.map_drop]
theorem bs_inj {s t : ByteArray} (h : bs s = bs t) : s = t := by
  have h1 : s.data.toList = t.data.toList := by
    have hj : Function.Injective UInt8.toNat := fun a b h => UInt8.toNat_inj.1 h
    exact (List.map_inj_right hj).1 h
  obtain ⟨a⟩ := s
  obtain ⟨b⟩ := t
  congr 1
  exact Array.toList_inj.1 h1
/-- The rune at the head of bytes. -/
def dL (u : List Nat) : Nat × Nat := Lib.decodeN u.length (u.getD 0 0) (u.getD 1 0) (u.getD 2 0) (u.getD 3 0)
theorem getD_drop' (u : List Nat) (p i : Nat) : (u.drop p).getD i 0 = u.getD (p + i) 0 := by
  rw [List.getD_eq_getElem?_getD, List.getD_eq_getElem?_getD, List.getElem?_drop]
theorem dec_dL (s : ByteArray) (p : Nat) : Utf8.decode s p = dL ((bs s).drop p) := by
  rw [Lib.decode_at, dL, List.length_drop, bs_length, getD_drop', getD_drop', getD_drop', getD_drop', bs_getD, bs_getD, bs_getD, bs_getD]
  rfl
theorem dL_pos (u : List Nat) : 1 ≤ (dL u).2 := by
  unfold dL Lib.decodeN
  repeat' split
  all_goals simp
theorem decN_low (n b0 b1 b2 b3 : Nat) (h : b0 < 128) : Lib.decodeN n b0 b1 b2 b3 = (b0, 1) := by rw [Lib.decodeN, if_pos h]
theorem decN_ge (n b0 b1 b2 b3 : Nat) (h : ¬ b0 < 128) : 128 ≤ (Lib.decodeN n b0 b1 b2 b3).1 := by
  unfold Lib.decodeN
  rw [if_neg h]
  repeat' split
  all_goals simp only
  all_goals omega
theorem decN_le (n b0 b1 b2 b3 : Nat) (h : 1 ≤ n) : (Lib.decodeN n b0 b1 b2 b3).2 ≤ n := by
  unfold Lib.decodeN
  repeat' split
  all_goals simp only
  all_goals omega
/-- A byte that does not go on ends what is ahead of it. -/
theorem decN_stop (n m b0 b1 b2 b3 : Nat) (hm : 1 ≤ m) (h1 : m = 1 → b1 < 128) (h2 : m = 2 → b2 < 128) (h3 : m = 3 → b3 < 128) : (Lib.decodeN n b0 b1 b2 b3).2 ≤ m := by
  by_cases h4 : 4 ≤ m
  · have : (Lib.decodeN n b0 b1 b2 b3).2 ≤ 4 := by
      unfold Lib.decodeN
      repeat' split
      all_goals simp
    omega
  · have hc : m = 1 ∨ m = 2 ∨ m = 3 := by omega
    rcases hc with rfl | rfl | rfl
    · have := h1 rfl
      unfold Lib.decodeN
      repeat' split
      all_goals simp only
      all_goals omega
    · have := h2 rfl
      unfold Lib.decodeN
      repeat' split
      all_goals simp only
      all_goals omega
    · have := h3 rfl
      unfold Lib.decodeN
      repeat' split
      all_goals simp only
      all_goals omega
theorem decodeN_cut (n m b0 b1 b2 b3 c1 c2 c3 : Nat) (hm : 1 ≤ m) (hmn : m ≤ n) (h1 : 1 < m → c1 = b1) (h2 : 2 < m → c2 = b2) (h3 : 3 < m → c3 = b3) :
    ((Lib.decodeN n b0 b1 b2 b3).2 ≤ m → Lib.decodeN m b0 c1 c2 c3 = Lib.decodeN n b0 b1 b2 b3) ∧ (m < (Lib.decodeN n b0 b1 b2 b3).2 → Lib.decodeN m b0 c1 c2 c3 = (65533, 1)) := by
  by_cases g0 : b0 < 128
  · have e1 : Lib.decodeN n b0 b1 b2 b3 = (b0, 1) := by rw [Lib.decodeN, if_pos g0]
    have e2 : Lib.decodeN m b0 c1 c2 c3 = (b0, 1) := by rw [Lib.decodeN, if_pos g0]
    rw [e1, e2]
    exact ⟨fun _ => rfl, fun h => absurd h (by simp only; omega)⟩
  · by_cases hm4 : 4 ≤ m
    · obtain rfl := h1 (by omega)
      obtain rfl := h2 (by omega)
      obtain rfl := h3 (by omega)
      have e : Lib.decodeN m b0 c1 c2 c3 = Lib.decodeN n b0 c1 c2 c3 := by
        have a1 : (1 < m) = (1 < n) := propext ⟨fun _ => by omega, fun _ => by omega⟩
        have a2 : (2 < m) = (2 < n) := propext ⟨fun _ => by omega, fun _ => by omega⟩
        have a3 : (3 < m) = (3 < n) := propext ⟨fun _ => by omega, fun _ => by omega⟩
        unfold Lib.decodeN
        simp only [a1, a2, a3]
      have hle : (Lib.decodeN n b0 c1 c2 c3).2 ≤ 4 := by
        unfold Lib.decodeN
        repeat' split
        all_goals simp
      exact ⟨fun _ => e, fun h => absurd h (by omega)⟩
    · have hcase : m = 1 ∨ m = 2 ∨ m = 3 := by omega
      rcases hcase with rfl | rfl | rfl
      · have e2 : Lib.decodeN 1 b0 c1 c2 c3 = (65533, 1) := by
          unfold Lib.decodeN
          rw [if_neg g0, if_neg (by omega), if_neg (by omega), if_neg (by omega)]
        refine ⟨?_, fun _ => e2⟩
        rw [e2]
        unfold Lib.decodeN
        repeat' split
        all_goals first | (intro _; rfl) | (intro h; simp only at h; omega)
      · obtain rfl := h1 (by omega)
        clear h1 h2 h3
        by_cases g1 : b0 / 32 = 6 ∧ (1 < n ∧ c1 / 64 = 2)
        · have e1 : Lib.decodeN 2 b0 c1 c2 c3 = Lib.decodeN n b0 c1 b2 b3 := by
            unfold Lib.decodeN
            rw [if_neg g0, if_neg g0, if_pos ⟨g1.1, by omega, g1.2.2⟩, if_pos g1]
          have hle : (Lib.decodeN n b0 c1 b2 b3).2 ≤ 2 := by
            unfold Lib.decodeN
            rw [if_neg g0, if_pos g1]
            split
            all_goals simp
          exact ⟨fun _ => e1, fun h => absurd h (by omega)⟩
        · have e2 : Lib.decodeN 2 b0 c1 c2 c3 = (65533, 1) := by
            unfold Lib.decodeN
            rw [if_neg g0, if_neg (by omega), if_neg (by omega), if_neg (by omega)]
          refine ⟨?_, fun _ => e2⟩
          rw [e2]
          unfold Lib.decodeN
          rw [if_neg g0, if_neg g1]
          repeat' split
          all_goals first | (intro _; rfl) | (intro h; simp only at h; omega)
      · obtain rfl := h1 (by omega)
        obtain rfl := h2 (by omega)
        clear h1 h2 h3
        by_cases g1 : b0 / 32 = 6 ∧ (1 < n ∧ c1 / 64 = 2)
        · have e1 : Lib.decodeN 3 b0 c1 c2 c3 = Lib.decodeN n b0 c1 c2 b3 := by
            unfold Lib.decodeN
            rw [if_neg g0, if_neg g0, if_pos ⟨g1.1, by omega, g1.2.2⟩, if_pos g1]
          have hle : (Lib.decodeN n b0 c1 c2 b3).2 ≤ 2 := by
            unfold Lib.decodeN
            rw [if_neg g0, if_pos g1]
            split
            all_goals simp
          exact ⟨fun _ => e1, fun h => absurd h (by omega)⟩
        · by_cases g2 : b0 / 16 = 14 ∧ (1 < n ∧ c1 / 64 = 2) ∧ (2 < n ∧ c2 / 64 = 2)
          · have e1 : Lib.decodeN 3 b0 c1 c2 c3 = Lib.decodeN n b0 c1 c2 b3 := by
              unfold Lib.decodeN
              rw [if_neg g0, if_neg g0, if_neg (by omega), if_neg g1, if_pos (by omega), if_pos g2]
            have hle : (Lib.decodeN n b0 c1 c2 b3).2 ≤ 3 := by
              unfold Lib.decodeN
              rw [if_neg g0, if_neg g1, if_pos g2]
              split
              all_goals simp
            exact ⟨fun _ => e1, fun h => absurd h (by omega)⟩
          · have e2 : Lib.decodeN 3 b0 c1 c2 c3 = (65533, 1) := by
              unfold Lib.decodeN
              rw [if_neg g0, if_neg (by omega), if_neg (by omega), if_neg (by omega)]
            refine ⟨?_, fun _ => e2⟩
            rw [e2]
            unfold Lib.decodeN
            rw [if_neg g0, if_neg g1, if_neg g2]
            repeat' split
            all_goals first | (intro _; rfl) | (intro h; simp only at h; omega)
theorem dL_le (u : List Nat) (h : u ≠ []) : (dL u).2 ≤ u.length := decN_le _ _ _ _ _ (List.length_pos_iff.2 h)
theorem dL_low (c : Nat) (u : List Nat) (h : c < 128) : dL (c :: u) = (c, 1) := decN_low _ _ _ _ _ h
theorem dL_lt {u : List Nat} (h : (dL u).1 < 128) : (dL u).2 = 1 := by
  by_cases h0 : u.getD 0 0 < 128
  · rw [dL, decN_low _ _ _ _ _ h0]
  · have := decN_ge u.length (u.getD 0 0) (u.getD 1 0) (u.getD 2 0) (u.getD 3 0) h0
    rw [dL] at h
    omega
theorem getD_left (x q : List Nat) (i : Nat) (h : i < x.length) : (x ++ q).getD i 0 = x.getD i 0 := by
  rw [List.getD_eq_getElem?_getD, List.getD_eq_getElem?_getD, List.getElem?_append_left h]
theorem dL_cut (x q : List Nat) (hx : x ≠ []) : ((dL (x ++ q)).2 ≤ x.length → dL x = dL (x ++ q)) ∧ (x.length < (dL (x ++ q)).2 → dL x = (65533, 1)) := by
  have hl := List.length_pos_iff.2 hx
  have h := decodeN_cut (x ++ q).length x.length ((x ++ q).getD 0 0) ((x ++ q).getD 1 0) ((x ++ q).getD 2 0) ((x ++ q).getD 3 0) (x.getD 1 0) (x.getD 2 0) (x.getD 3 0) hl (by simp)
    (fun h => (getD_left x q 1 h).symm) (fun h => (getD_left x q 2 h).symm) (fun h => (getD_left x q 3 h).symm)
  have e : dL x = Lib.decodeN x.length ((x ++ q).getD 0 0) (x.getD 1 0) (x.getD 2 0) (x.getD 3 0) := by rw [dL, getD_left x q 0 hl]
  rw [e]
  exact h
theorem dL_ext (x : List Nat) (c : Nat) (z : List Nat) (hx : x ≠ []) (hc : c < 128) : dL (x ++ c :: z) = dL x := by
  have hl := List.length_pos_iff.2 hx
  have hg : (x ++ c :: z).getD x.length 0 = c := by rw [List.getD_eq_getElem?_getD, List.getElem?_append_right (Nat.le_refl _), Nat.sub_self]; rfl
  refine ((dL_cut x (c :: z) hx).1 (decN_stop _ _ _ _ _ _ hl (fun h => ?_) (fun h => ?_) (fun h => ?_))).symm
  · rw [h] at hg; rw [hg]; exact hc
  · rw [h] at hg; rw [hg]; exact hc
  · rw [h] at hg; rw [hg]; exact hc
/-- How many bytes of a text are such runes. -/
def runL (f : Nat → Bool) : Nat → List Nat → Nat
  | 0, _ => 0
  | k + 1, u => if u = [] then 0 else if f (dL u).1 then (dL u).2 + runL f k (u.drop (dL u).2) else 0
def runA (f : Nat → Bool) (u : List Nat) : Nat := runL f u.length u
theorem runL_more (f : Nat → Bool) : ∀ k u, u.length ≤ k → runL f k u = runA f u := by
  intro k
  induction k using Nat.strongRecOn with
  | _ k ih =>
    intro u h
    by_cases hu : u = []
    · subst hu; cases k <;> rfl
    · have h1 := List.length_pos_iff.2 hu
      have h2 := dL_pos u
      obtain ⟨k, rfl⟩ : ∃ j, k = j + 1 := ⟨k - 1, by omega⟩
      obtain ⟨m, hm⟩ : ∃ m, u.length = m + 1 := ⟨u.length - 1, by omega⟩
      rw [runA, hm, runL, runL, if_neg hu, if_neg hu]
      rw [ih k (by omega) _ (by rw [List.length_drop]; omega)]
      by_cases hk : m < k + 1
      · rw [ih m hk _ (by rw [List.length_drop]; omega)]
      · omega
theorem runA_nil (f : Nat → Bool) : runA f [] = 0 := rfl
theorem runA_step (f : Nat → Bool) (u : List Nat) (h : u ≠ []) : runA f u = if f (dL u).1 then (dL u).2 + runA f (u.drop (dL u).2) else 0 := by
  have h1 := List.length_pos_iff.2 h
  have h2 := dL_pos u
  obtain ⟨m, hm⟩ : ∃ m, u.length = m + 1 := ⟨u.length - 1, by omega⟩
  rw [runA, hm, runL, if_neg h, runL_more f m _ (by rw [List.length_drop]; omega)]
theorem runA_le (f : Nat → Bool) : ∀ k (u : List Nat), u.length ≤ k → runA f u ≤ u.length := by
  intro k
  induction k with
  | zero => intro u h; have : u = [] := List.eq_nil_of_length_eq_zero (by omega); subst this; exact Nat.le_refl _
  | succ k ih =>
    intro u h
    by_cases hu : u = []
    · subst hu; exact Nat.le_refl _
    · have h2 := dL_pos u
      have h3 := dL_le u hu
      rw [runA_step f u hu]
      split
      · have := ih (u.drop (dL u).2) (by rw [List.length_drop]; omega)
        rw [List.length_drop] at this
        omega
      · omega
theorem run_swap (f : Nat → Bool) (hf : f 65533 = false ∨ ∀ u, f (dL u).1 = false → (dL u).2 = 1) (q z : List Nat) : ∀ k (x : List Nat), x.length ≤ k → runA f (x ++ q) ≤ x.length →
    (z = [] ∨ ∃ c z', z = c :: z' ∧ c < 128 ∧ (runA f (x ++ q) = x.length → f c = false)) → runA f (x ++ z) = runA f (x ++ q) := by
  intro k
  induction k with
  | zero =>
    intro x hx hn hz
    have e : x = [] := List.eq_nil_of_length_eq_zero (by omega)
    subst e
    have hn0 : runA f q = 0 := by simpa using hn
    rcases hz with rfl | ⟨c, z', rfl, hc, hs⟩
    · simp [hn0, runA_nil]
    · simp only [List.nil_append]
      rw [runA_step f _ (by simp), dL_low c z' hc, hs (by simpa using hn0)]
      simp [hn0]
  | succ k ih =>
    intro x hx hn hz
    by_cases e : x = []
    · exact ih x (by subst e; simp) hn hz
    · have hd := dL_cut x q e
      have hext : dL (x ++ z) = dL x := by
        rcases hz with rfl | ⟨c, z', rfl, hc, hs⟩
        · rw [List.append_nil]
        · exact dL_ext x c z' e hc
      rw [runA_step f (x ++ z) (by simp [e]), runA_step f (x ++ q) (by simp [e]), hext]
      rw [runA_step f (x ++ q) (by simp [e])] at hn hz
      have hp := dL_pos (x ++ q)
      by_cases h1 : f (dL (x ++ q)).1 = true
      · rw [if_pos h1] at hn hz ⊢
        have h2 : (dL (x ++ q)).2 ≤ x.length := by omega
        rw [hd.1 h2, if_pos h1, List.drop_append_of_le_length h2, List.drop_append_of_le_length h2]
        rw [List.drop_append_of_le_length h2] at hn hz
        rw [ih (x.drop (dL (x ++ q)).2) (by rw [List.length_drop]; omega) (by rw [List.length_drop]; omega)]
        rcases hz with rfl | ⟨c, z', rfl, hc, hs⟩
        · exact .inl rfl
        · exact .inr ⟨c, z', rfl, hc, fun h => hs (by rw [h, List.length_drop]; omega)⟩
      · rw [if_neg h1]
        have h1' : f (dL (x ++ q)).1 = false := by simpa using h1
        have hlen := List.length_pos_iff.2 e
        by_cases h2 : (dL (x ++ q)).2 ≤ x.length
        · rw [hd.1 h2, if_neg h1]
        · rcases hf with hf | hf
          · rw [hd.2 (by omega)]
            simp [hf]
          · have := hf _ h1'
            omega
end Go.Proofs.YtbfhglaaombglaaDoor
end
section
namespace Go.Proofs.YtbfhglaaombglaaDoor
set_option linter.unusedVariables false
set_option linter.unusedSimpArgs false
open Go.RowKit Go.Proofs.YtbfhglaaombglaaDoorW.PrintWords
def partF (r : Nat) : Bool := letterF (r : Int) || digitF (r : Int)
def dgF (r : Nat) : Bool := digitF (r : Int)
def nlF (r : Nat) : Bool := !(r == 10)
def blankB (b : Nat) : Bool := [32, 9, 13, 10].contains b
def signB (b : Nat) : Bool := [123, 125, 40, 41, 59, 61, 44].contains b
def slashB (u : List Nat) : Bool := u.getD 0 0 == 47 && u.getD 1 0 == 47
/-- What begins here: no text (9), nothing (5), or a kind (0: none) and how many bytes it has. -/
def stepL (u : List Nat) : Nat ⊕ (Nat × Nat) :=
  if (dL u).1 = 65533 ∧ (dL u).2 < 2 then .inl 9
  else if blankB (u.getD 0 0) then .inr (0, 1)
  else if slashB u then .inr (0, runA nlF u)
  else if letterF ((dL u).1 : Int) then .inr (1, runA partF u)
  else if dgF (dL u).1 then .inr (2, runA dgF u)
  else if signB (u.getD 0 0) then .inr (3, 1)
  else .inl 5
theorem blank_low {b : Nat} (h : blankB b = true) : b < 128 := by simp [blankB] at h; omega
theorem sign_low {b : Nat} (h : signB b = true) : b < 128 := by simp [signB] at h; omega
theorem dL_head (u : List Nat) (h : u.getD 0 0 < 128) : dL u = (u.getD 0 0, 1) := decN_low _ _ _ _ _ h
theorem slash_dL {u : List Nat} (h : slashB u = true) : dL u = (47, 1) ∧ 2 ≤ u.length := by
  simp only [slashB, Bool.and_eq_true, beq_iff_eq] at h
  refine ⟨by rw [dL_head u (by omega), h.1], ?_⟩
  rcases Nat.lt_or_ge u.length 2 with h2 | h2
  · have := h.2
    rw [List.getD_eq_getElem?_getD, List.getElem?_eq_none (by omega)] at this
    simp at this
  · exact h2
theorem slash_run {u : List Nat} (h : slashB u = true) : 2 ≤ runA nlF u := by
  obtain ⟨h1, h2⟩ := slash_dL h
  have hu : u ≠ [] := by intro e; subst e; simp at h2
  rw [runA_step nlF u hu, h1]
  have h3 : (u.drop 1).getD 0 0 = 47 := by
    rw [getD_drop']
    simp only [slashB, Bool.and_eq_true, beq_iff_eq] at h
    exact h.2
  have h4 : u.drop 1 ≠ [] := by intro e; have := congrArg List.length e; simp at this; omega
  rw [runA_step nlF (u.drop 1) h4, dL_head _ (by omega), h3]
  simp [nlF]
  omega
theorem run_first (f : Nat → Bool) (u : List Nat) (hu : u ≠ []) (h : f (dL u).1 = true) : (dL u).2 ≤ runA f u := by
  rw [runA_step f u hu, if_pos h]; omega
theorem step_bound (u : List Nat) (hu : u ≠ []) (k n : Nat) (h : stepL u = .inr (k, n)) : (dL u).2 ≤ n ∧ n ≤ u.length ∧ 1 ≤ n := by
  have hl := List.length_pos_iff.2 hu
  have hp := dL_pos u
  unfold stepL at h
  by_cases c1 : (dL u).1 = 65533 ∧ (dL u).2 < 2
  · rw [if_pos c1] at h; cases h
  · rw [if_neg c1] at h
    by_cases c2 : blankB (u.getD 0 0) = true
    · rw [if_pos c2] at h
      cases h
      rw [dL_head u (blank_low c2)]
      exact ⟨Nat.le_refl _, hl, Nat.le_refl _⟩
    · rw [if_neg c2] at h
      by_cases c3 : slashB u = true
      · rw [if_pos c3] at h
        cases h
        have h1 := slash_run c3
        have h2 := runA_le nlF u.length u (Nat.le_refl _)
        rw [(slash_dL c3).1]
        exact ⟨by simp only; omega, h2, by omega⟩
      · rw [if_neg c3] at h
        by_cases c4 : letterF ((dL u).1 : Int) = true
        · rw [if_pos c4] at h
          cases h
          have h1 := run_first partF u hu (by rw [partF, c4]; rfl)
          have h2 := runA_le partF u.length u (Nat.le_refl _)
          exact ⟨h1, h2, by omega⟩
        · rw [if_neg c4] at h
          by_cases c5 : dgF (dL u).1 = true
          · rw [if_pos c5] at h
            cases h
            have h1 := run_first dgF u hu c5
            have h2 := runA_le dgF u.length u (Nat.le_refl _)
            exact ⟨h1, h2, by omega⟩
          · rw [if_neg c5] at h
            by_cases c6 : signB (u.getD 0 0) = true
            · rw [if_pos c6] at h
              cases h
              rw [dL_head u (sign_low c6)]
              exact ⟨Nat.le_refl _, hl, Nat.le_refl _⟩
            · rw [if_neg c6] at h
              cases h
/-- What ends a piece. -/
def StopAt (k : Nat) (x : List Nat) (c : Nat) : Prop := (k = 1 → partF c = false) ∧ (k = 2 → dgF c = false) ∧ (k = 0 → x.getD 0 0 = 47 → nlF c = false)
theorem nl_width (u : List Nat) (h : nlF (dL u).1 = false) : (dL u).2 = 1 := dL_lt (by simp [nlF] at h; omega)
/-- What stands behind a piece turns nothing of it. -/
theorem step_swap (x q z : List Nat) (hx : x ≠ []) (k n : Nat) (h : stepL (x ++ q) = .inr (k, n)) (hn : n ≤ x.length)
    (hz : z = [] ∨ ∃ c z', z = c :: z' ∧ c < 128 ∧ (n = x.length → StopAt k x c)) : stepL (x ++ z) = .inr (k, n) := by
  have hl := List.length_pos_iff.2 hx
  obtain ⟨hb1, hb2, hb3⟩ := step_bound _ (by simp [hx]) k n h
  have hd : dL (x ++ z) = dL (x ++ q) := by
    rw [← (dL_cut x q hx).1 (by omega)]
    rcases hz with rfl | ⟨c, z', rfl, hc, _⟩
    · rw [List.append_nil]
    · exact dL_ext x c z' hx hc
  have h0 : ∀ y : List Nat, (x ++ y).getD 0 0 = x.getD 0 0 := fun y => getD_left x y 0 hl
  have hs : slashB (x ++ z) = slashB (x ++ q) := by
    by_cases h2 : 2 ≤ x.length
    · unfold slashB
      rw [getD_left x z 1 (by omega), getD_left x q 1 (by omega), h0, h0]
    · by_cases h47 : x.getD 0 0 = 47
      · exfalso
        have hdq : dL (x ++ q) = (47, 1) := by rw [dL_head _ (by rw [h0]; omega), h0, h47]
        unfold stepL at h
        rw [hdq, h0, h47] at h
        by_cases c3 : slashB (x ++ q) = true
        · rw [if_neg (by simp), if_neg (by decide), if_pos c3] at h
          cases h
          have := slash_run c3
          omega
        · rw [if_neg (by simp), if_neg (by decide), if_neg c3, if_neg (by decide), if_neg (by decide), if_neg (by decide)] at h
          cases h
      · unfold slashB
        rw [h0, h0, beq_eq_false_iff_ne.2 h47, Bool.false_and, Bool.false_and]
  unfold stepL at h ⊢
  rw [hd, hs]
  rw [h0] at h ⊢
  by_cases c1 : (dL (x ++ q)).1 = 65533 ∧ (dL (x ++ q)).2 < 2
  · rw [if_pos c1] at h; cases h
  · rw [if_neg c1] at h ⊢
    by_cases c2 : blankB (x.getD 0 0) = true
    · rw [if_pos c2] at h ⊢
      exact h
    · rw [if_neg c2] at h ⊢
      by_cases c3 : slashB (x ++ q) = true
      · rw [if_pos c3] at h ⊢
        cases h
        have h47 : x.getD 0 0 = 47 := by
          have := c3
          simp only [slashB, Bool.and_eq_true, beq_iff_eq] at this
          rw [← this.1, h0]
        rw [run_swap nlF (.inr nl_width) q z x.length x (Nat.le_refl _) hn]
        rcases hz with rfl | ⟨c, z', rfl, hc, hst⟩
        · exact .inl rfl
        · exact .inr ⟨c, z', rfl, hc, fun e => (hst e).2.2 rfl h47⟩
      · rw [if_neg c3] at h ⊢
        by_cases c4 : letterF ((dL (x ++ q)).1 : Int) = true
        · rw [if_pos c4] at h ⊢
          cases h
          rw [run_swap partF (.inl (by decide)) q z x.length x (Nat.le_refl _) hn]
          rcases hz with rfl | ⟨c, z', rfl, hc, hst⟩
          · exact .inl rfl
          · exact .inr ⟨c, z', rfl, hc, fun e => (hst e).1 rfl⟩
        · rw [if_neg c4] at h ⊢
          by_cases c5 : dgF (dL (x ++ q)).1 = true
          · rw [if_pos c5] at h ⊢
            cases h
            rw [run_swap dgF (.inl (by decide)) q z x.length x (Nat.le_refl _) hn]
            rcases hz with rfl | ⟨c, z', rfl, hc, hst⟩
            · exact .inl rfl
            · exact .inr ⟨c, z', rfl, hc, fun e => (hst e).2.1 rfl⟩
          · rw [if_neg c5] at h ⊢
            exact h
/-- From a place to another one: the pieces between. -/
inductive Steps : Nat → List Nat → List (Nat × Nat × Nat) → Nat → List Nat → Prop
  | nil (p : Nat) (u : List Nat) : Steps p u [] p u
  | blank {p : Nat} {u : List Nat} {n : Nat} {l : List (Nat × Nat × Nat)} {q : Nat} {v : List Nat} (hu : u ≠ []) (h : stepL u = .inr (0, n)) (r : Steps (p + n) (u.drop n) l q v) : Steps p u l q v
  | tok {p : Nat} {u : List Nat} {k n : Nat} {l : List (Nat × Nat × Nat)} {q : Nat} {v : List Nat} (hu : u ≠ []) (h : stepL u = .inr (k + 1, n)) (r : Steps (p + n) (u.drop n) l q v) : Steps p u ((k + 1, p, n) :: l) q v
def shT (d : Nat) (t : Nat × Nat × Nat) : Nat × Nat × Nat := (t.1, t.2.1 + d, t.2.2)
/-- The pieces of bytes from a place on; behind them the end, or a place and what is wrong there. -/
def toksL : Nat → Nat → List Nat → List (Nat × Nat × Nat) × Option (Nat × Nat)
  | 0, _, _ => ([], none)
  | f + 1, p, u => if u = [] then ([], none) else match stepL u with
    | .inl e => ([], some (p, e))
    | .inr (0, n) => toksL f (p + n) (u.drop n)
    | .inr (k + 1, n) => ((k + 1, p, n) :: (toksL f (p + n) (u.drop n)).1, (toksL f (p + n) (u.drop n)).2)
def toksA (p : Nat) (u : List Nat) : List (Nat × Nat × Nat) × Option (Nat × Nat) := toksL u.length p u
theorem toksL_more : ∀ k f p u, u.length ≤ k → k ≤ f → toksL f p u = toksL k p u := by
  intro k
  induction k with
  | zero =>
    intro f p u h hf
    have : u = [] := List.eq_nil_of_length_eq_zero (by omega)
    subst this
    cases f with
    | zero => rfl
    | succ f => simp [toksL]
  | succ k ih =>
    intro f p u h hf
    obtain ⟨f, rfl⟩ : ∃ g, f = g + 1 := ⟨f - 1, by omega⟩
    rw [toksL, toksL]
    by_cases hu : u = []
    · rw [if_pos hu, if_pos hu]
    · rw [if_neg hu, if_neg hu]
      cases hs : stepL u with
      | inl e => rfl
      | inr kn =>
        obtain ⟨k', n⟩ := kn
        have hb := step_bound u hu k' n hs
        have e := ih f (p + n) (u.drop n) (by rw [List.length_drop]; omega) (by omega)
        cases k' with
        | zero => simp only; rw [e]
        | succ k' => simp only; rw [e]
theorem toksA_nil (p : Nat) : toksA p [] = ([], none) := rfl
theorem toksA_err (p : Nat) (u : List Nat) (hu : u ≠ []) (e : Nat) (h : stepL u = .inl e) : toksA p u = ([], some (p, e)) := by
  have hl := List.length_pos_iff.2 hu
  obtain ⟨m, hm⟩ : ∃ m, u.length = m + 1 := ⟨u.length - 1, by omega⟩
  rw [toksA, hm, toksL, if_neg hu, h]
theorem toksA_blank (p : Nat) (u : List Nat) (hu : u ≠ []) (n : Nat) (h : stepL u = .inr (0, n)) : toksA p u = toksA (p + n) (u.drop n) := by
  have hl := List.length_pos_iff.2 hu
  have hb := step_bound u hu 0 n h
  obtain ⟨m, hm⟩ : ∃ m, u.length = m + 1 := ⟨u.length - 1, by omega⟩
  rw [toksA, hm, toksL, if_neg hu, h]
  exact toksL_more _ _ _ _ (Nat.le_refl _) (by rw [List.length_drop]; omega)
theorem toksA_tok (p : Nat) (u : List Nat) (hu : u ≠ []) (k n : Nat) (h : stepL u = .inr (k + 1, n)) : toksA p u = ((k + 1, p, n) :: (toksA (p + n) (u.drop n)).1, (toksA (p + n) (u.drop n)).2) := by
  have hl := List.length_pos_iff.2 hu
  have hb := step_bound u hu (k + 1) n h
  obtain ⟨m, hm⟩ : ∃ m, u.length = m + 1 := ⟨u.length - 1, by omega⟩
  rw [toksA, hm, toksL, if_neg hu, h]
  simp only
  rw [toksL_more (u.drop n).length m (p + n) (u.drop n) (Nat.le_refl _) (by rw [List.length_drop]; omega)]
  rfl
theorem Steps.toks {p q : Nat} {u v : List Nat} {l : List (Nat × Nat × Nat)} (h : Steps p u l q v) : toksA p u = (l ++ (toksA q v).1, (toksA q v).2) := by
  induction h with
  | nil p u => rfl
  | blank hu h r ih => rw [toksA_blank _ _ hu _ h, ih]
  | tok hu h r ih => rw [toksA_tok _ _ hu _ _ h, ih]; rfl
theorem Steps.toks_end {p q : Nat} {u : List Nat} {l : List (Nat × Nat × Nat)} (h : Steps p u l q []) : toksA p u = (l, none) := by rw [h.toks, toksA_nil, List.append_nil]
theorem toks_steps : ∀ k p u, u.length ≤ k → (∀ l, toksA p u = (l, none) → Steps p u l (p + u.length) []) ∧ (∀ l q e, toksA p u = (l, some (q, e)) → ∃ v, Steps p u l q v ∧ v ≠ [] ∧ stepL v = .inl e) := by
  intro k
  induction k with
  | zero =>
    intro p u h
    have : u = [] := List.eq_nil_of_length_eq_zero (by omega)
    subst this
    refine ⟨fun l h => ?_, fun l q e h => ?_⟩
    · rw [toksA_nil] at h; cases h; exact .nil _ _
    · rw [toksA_nil] at h; cases h
  | succ k ih =>
    intro p u hl
    by_cases hu : u = []
    · exact ih p u (by subst hu; simp)
    · cases hs : stepL u with
      | inl e =>
        refine ⟨fun l h => ?_, fun l q e' h => ?_⟩
        · rw [toksA_err p u hu e hs] at h; cases h
        · rw [toksA_err p u hu e hs] at h; cases h; exact ⟨u, .nil _ _, hu, hs⟩
      | inr kn =>
        obtain ⟨k', n⟩ := kn
        have hb := step_bound u hu k' n hs
        obtain ⟨i1, i2⟩ := ih (p + n) (u.drop n) (by rw [List.length_drop]; omega)
        have hpl : p + n + (u.drop n).length = p + u.length := by rw [List.length_drop]; omega
        rw [hpl] at i1
        cases k' with
        | zero =>
          refine ⟨fun l h => ?_, fun l q e h => ?_⟩
          · rw [toksA_blank p u hu n hs] at h
            exact .blank hu hs (i1 l h)
          · rw [toksA_blank p u hu n hs] at h
            obtain ⟨v, j1, j2, j3⟩ := i2 l q e h
            exact ⟨v, .blank hu hs j1, j2, j3⟩
        | succ k' =>
          refine ⟨fun l h => ?_, fun l q e h => ?_⟩
          · rw [toksA_tok p u hu k' n hs] at h
            simp only [Prod.mk.injEq] at h
            obtain ⟨rfl, h2⟩ := h
            exact .tok hu hs (i1 _ (Prod.ext rfl h2))
          · rw [toksA_tok p u hu k' n hs] at h
            simp only [Prod.mk.injEq] at h
            obtain ⟨rfl, h2⟩ := h
            obtain ⟨v, j1, j2, j3⟩ := i2 _ q e (Prod.ext rfl h2)
            exact ⟨v, .tok hu hs j1, j2, j3⟩
end Go.Proofs.YtbfhglaaombglaaDoor
end
section
namespace Go.Proofs.YtbfhglaaombglaaDoor
set_option linter.unusedVariables false
set_option linter.unusedSimpArgs false
open Go.RowKit Go.Proofs.YtbfhglaaombglaaDoorW.PrintWords
theorem part_any (r : Nat) (w : World) : Calls Tryd.prog 30 #[.int .i32 (r : Int)] w fun e w' => e = .returned (.bool (partF r)) ∧ w = w' := by
  cases h1 : letterF (r : Int) with
  | true =>
    have hp : partF r = true := by rw [partF, h1]; rfl
    rw [hp]
    go_enter Tryd.func30, Tryd.ntmps30
    go_wp2_with fail
    refine (letter_any (r : Int) _ true ⟨h1⟩).mono ?_
    rintro e w1 ⟨rfl, rfl⟩
    go_wp2
    go_ret
    exact ⟨rfl, rfl⟩
  | false =>
    obtain ⟨b, hb⟩ : ∃ b, digitF (r : Int) = b := ⟨_, rfl⟩
    have hp : partF r = b := by rw [partF, h1, hb]; rfl
    rw [hp]
    go_enter Tryd.func30, Tryd.ntmps30
    go_wp2_with fail
    refine (letter_any (r : Int) _ false ⟨h1⟩).mono ?_
    rintro e w1 ⟨rfl, rfl⟩
    go_wp2_with fail
    refine (digit_any (r : Int) _ b ⟨hb⟩).mono ?_
    rintro e w1 ⟨rfl, rfl⟩
    go_wp2
    go_ret
    exact ⟨rfl, rfl⟩
theorem nl_any (r : Nat) (w : World) : Calls Tryd.prog 28 #[.int .i32 (r : Int)] w fun e w' => e = .returned (.bool (nlF r)) ∧ w = w' := by
  by_cases h : r = 10
  · subst h
    go_enter Tryd.func28, Tryd.ntmps28
    go_wp2
    go_ret
    exact ⟨rfl, rfl⟩
  · have hp : nlF r = true := by simp [nlF, h]
    have h1 : ((r : Int) != 10) = true := by simp; omega
    have h2 : ((r : Int) == 10) = false := by simp; omega
    rw [hp]
    go_enter Tryd.func28, Tryd.ntmps28
    go_wp2
    go_ret
    exact ⟨rfl, rfl⟩
theorem part_at (r : Nat) (w : World) (v : Bool) (hv : Aside0 (partF r = v)) : Calls Tryd.prog 30 #[.int .i32 (r : Int)] w fun e w' => e = .returned (.bool v) ∧ w = w' := by rw [← hv.out]; exact part_any r w
theorem nl_at (r : Nat) (w : World) (v : Bool) (hv : Aside0 (nlF r = v)) : Calls Tryd.prog 28 #[.int .i32 (r : Int)] w fun e w' => e = .returned (.bool v) ∧ w = w' := by rw [← hv.out]; exact nl_any r w
set_option maxRecDepth 100000 in
set_option maxHeartbeats 1000000 in
theorem run_part (s : ByteArray) (w : World) (hs : s.size ≤ 4611686018427387904) (n : Nat) (hn : Aside0 (runA partF (bs s) = n)) :
    Calls Tryd.prog 27 #[.string s, .func (.func 30) #[] #[]] w fun e w' => e = .returned (.int .i64 (n : Int)) ∧ Below w.heap.size w w' := by
  go_enter Tryd.func27, Tryd.ntmps27
  go_wp2_with fail
  go_loopw [5, 6] (fun _ _ wr => ∃ (pos : Nat), Aside0 (wr.heap[w.heap.size]? = some (.stringIter s pos)) ∧ pos ≤ s.size ∧ Aside0 (pos + runA partF ((bs s).drop pos) = n) ∧ Aside0 (Below w.heap.size w wr)) (fun _ _ wr => s.size - wr.iterPos w.heap.size)
  case atStart => exact ⟨0, ⟨World.iter_heap w s 0⟩, by omega, ⟨by rw [List.drop_zero, Nat.zero_add]; exact hn.out⟩, ⟨(Below.refl _ _).alloc (Nat.le_refl _) _⟩⟩
  case round =>
    obtain ⟨pos, HK, hpos, HV, HB⟩ := hrel
    by_cases hp : pos < s.size
    · obtain ⟨r, d, hd⟩ : ∃ r d, Utf8.decode s pos = (r, d) := ⟨_, _, rfl⟩
      have hnx : ∀ ty, (Instr.next (.pointer (some ⟨w.heap.size, 0, none⟩)) true ty).run Tryd.prog wr = _ := fun ty => Lib.run_next_any_at wr w.heap.size s pos ty HK.out hp
      have hn1 := dec_pos s pos hp
      have hn2 := dec_le s pos hp
      rw [hd] at hn1 hn2
      simp only [hd] at hnx
      simp only at hn1 hn2
      have hst := HV.out
      rw [runA_step _ _ (by intro e; have := congrArg List.length e; rw [List.length_drop, bs_length] at this; simp at this; omega), ← dec_dL, hd] at hst
      simp only [List.drop_drop] at hst
      have HK2 := Aside0.mk (Lib.iterAt_heap wr w.heap.size s pos (pos + d) HK.out)
      have HB2 := Aside0.mk (Lib.below_iterAt HB.out (Nat.le_refl _) s (pos + d))
      have hmeas := Aside0.mk (iter_pos HK.out)
      have hlt : w.heap.size < wr.heap.size := (Array.getElem?_eq_some_iff.1 HK.out).1
      have hlt2 : w.heap.size < (wr.iterAt w.heap.size s (pos + d)).heap.size := by rw [Lib.iterAt_size]; exact hlt
      have HST := Aside0.mk hst
      clear hd hst
      cases hg : partF r
      · have hpn : n = pos := by rw [← HST.out, hg]; simp
        subst hpn
        have HG := Aside0.mk hg
        clear hg
        go_wp2_with fail
        refine (part_at r _ _ HG).mono ?_
        rintro e w1 ⟨rfl, rfl⟩
        go_wp2
        go_ret
        exact ⟨rfl, HB2.out⟩
      · have HG := Aside0.mk hg
        have HST2 : Aside0 (pos + d + runA partF ((bs s).drop (pos + d)) = n) := ⟨by rw [← HST.out, hg, if_pos rfl]; omega⟩
        clear hg
        go_wp2_with fail
        refine (part_at r _ _ HG).mono ?_
        rintro e w1 ⟨rfl, rfl⟩
        go_wp2
        go_roundw
        case rel => exact ⟨pos + d, HK2, hn2.1, HST2, HB2⟩
        case measure => rw [iter_pos HK2.out, hmeas.out]; omega
    · have hnx : ∀ ty, (Instr.next (.pointer (some ⟨w.heap.size, 0, none⟩)) true ty).run Tryd.prog wr = _ := fun ty => Lib.run_next_end_at wr w.heap.size s pos ty HK.out hp
      have hpn : n = s.size := by
        have := HV.out
        rw [List.drop_eq_nil_of_le (by rw [bs_length]; omega), runA_nil] at this
        omega
      subst hpn
      go_wp2
      go_ret
      exact ⟨rfl, HB.out⟩
set_option maxRecDepth 100000 in
set_option maxHeartbeats 1000000 in
theorem run_digits (s : ByteArray) (w : World) (hs : s.size ≤ 4611686018427387904) (n : Nat) (hn : Aside0 (runA dgF (bs s) = n)) :
    Calls Tryd.prog 27 #[.string s, .func (.func 31) #[] #[]] w fun e w' => e = .returned (.int .i64 (n : Int)) ∧ Below w.heap.size w w' := by
  go_enter Tryd.func27, Tryd.ntmps27
  go_wp2_with fail
  go_loopw [5, 6] (fun _ _ wr => ∃ (pos : Nat), Aside0 (wr.heap[w.heap.size]? = some (.stringIter s pos)) ∧ pos ≤ s.size ∧ Aside0 (pos + runA dgF ((bs s).drop pos) = n) ∧ Aside0 (Below w.heap.size w wr)) (fun _ _ wr => s.size - wr.iterPos w.heap.size)
  case atStart => exact ⟨0, ⟨World.iter_heap w s 0⟩, by omega, ⟨by rw [List.drop_zero, Nat.zero_add]; exact hn.out⟩, ⟨(Below.refl _ _).alloc (Nat.le_refl _) _⟩⟩
  case round =>
    obtain ⟨pos, HK, hpos, HV, HB⟩ := hrel
    by_cases hp : pos < s.size
    · obtain ⟨r, d, hd⟩ : ∃ r d, Utf8.decode s pos = (r, d) := ⟨_, _, rfl⟩
      have hnx : ∀ ty, (Instr.next (.pointer (some ⟨w.heap.size, 0, none⟩)) true ty).run Tryd.prog wr = _ := fun ty => Lib.run_next_any_at wr w.heap.size s pos ty HK.out hp
      have hn1 := dec_pos s pos hp
      have hn2 := dec_le s pos hp
      rw [hd] at hn1 hn2
      simp only [hd] at hnx
      simp only at hn1 hn2
      have hst := HV.out
      rw [runA_step _ _ (by intro e; have := congrArg List.length e; rw [List.length_drop, bs_length] at this; simp at this; omega), ← dec_dL, hd] at hst
      simp only [List.drop_drop] at hst
      have HK2 := Aside0.mk (Lib.iterAt_heap wr w.heap.size s pos (pos + d) HK.out)
      have HB2 := Aside0.mk (Lib.below_iterAt HB.out (Nat.le_refl _) s (pos + d))
      have hmeas := Aside0.mk (iter_pos HK.out)
      have hlt : w.heap.size < wr.heap.size := (Array.getElem?_eq_some_iff.1 HK.out).1
      have hlt2 : w.heap.size < (wr.iterAt w.heap.size s (pos + d)).heap.size := by rw [Lib.iterAt_size]; exact hlt
      have HST := Aside0.mk hst
      clear hd hst
      cases hg : dgF r
      · have hpn : n = pos := by rw [← HST.out, hg]; simp
        subst hpn
        have HG := Aside0.mk hg
        clear hg
        go_wp2_with fail
        refine (digit_any (r : Int) _ _ HG).mono ?_
        rintro e w1 ⟨rfl, rfl⟩
        go_wp2
        go_ret
        exact ⟨rfl, HB2.out⟩
      · have HG := Aside0.mk hg
        have HST2 : Aside0 (pos + d + runA dgF ((bs s).drop (pos + d)) = n) := ⟨by rw [← HST.out, hg, if_pos rfl]; omega⟩
        clear hg
        go_wp2_with fail
        refine (digit_any (r : Int) _ _ HG).mono ?_
        rintro e w1 ⟨rfl, rfl⟩
        go_wp2
        go_roundw
        case rel => exact ⟨pos + d, HK2, hn2.1, HST2, HB2⟩
        case measure => rw [iter_pos HK2.out, hmeas.out]; omega
    · have hnx : ∀ ty, (Instr.next (.pointer (some ⟨w.heap.size, 0, none⟩)) true ty).run Tryd.prog wr = _ := fun ty => Lib.run_next_end_at wr w.heap.size s pos ty HK.out hp
      have hpn : n = s.size := by
        have := HV.out
        rw [List.drop_eq_nil_of_le (by rw [bs_length]; omega), runA_nil] at this
        omega
      subst hpn
      go_wp2
      go_ret
      exact ⟨rfl, HB.out⟩
set_option maxRecDepth 100000 in
set_option maxHeartbeats 1000000 in
theorem run_line (s : ByteArray) (w : World) (hs : s.size ≤ 4611686018427387904) (n : Nat) (hn : Aside0 (runA nlF (bs s) = n)) :
    Calls Tryd.prog 27 #[.string s, .func (.func 28) #[] #[]] w fun e w' => e = .returned (.int .i64 (n : Int)) ∧ Below w.heap.size w w' := by
  go_enter Tryd.func27, Tryd.ntmps27
  go_wp2_with fail
  go_loopw [5, 6] (fun _ _ wr => ∃ (pos : Nat), Aside0 (wr.heap[w.heap.size]? = some (.stringIter s pos)) ∧ pos ≤ s.size ∧ Aside0 (pos + runA nlF ((bs s).drop pos) = n) ∧ Aside0 (Below w.heap.size w wr)) (fun _ _ wr => s.size - wr.iterPos w.heap.size)
  case atStart => exact ⟨0, ⟨World.iter_heap w s 0⟩, by omega, ⟨by rw [List.drop_zero, Nat.zero_add]; exact hn.out⟩, ⟨(Below.refl _ _).alloc (Nat.le_refl _) _⟩⟩
  case round =>
    obtain ⟨pos, HK, hpos, HV, HB⟩ := hrel
    by_cases hp : pos < s.size
    · obtain ⟨r, d, hd⟩ : ∃ r d, Utf8.decode s pos = (r, d) := ⟨_, _, rfl⟩
      have hnx : ∀ ty, (Instr.next (.pointer (some ⟨w.heap.size, 0, none⟩)) true ty).run Tryd.prog wr = _ := fun ty => Lib.run_next_any_at wr w.heap.size s pos ty HK.out hp
      have hn1 := dec_pos s pos hp
      have hn2 := dec_le s pos hp
      rw [hd] at hn1 hn2
      simp only [hd] at hnx
      simp only at hn1 hn2
      have hst := HV.out
      rw [runA_step _ _ (by intro e; have := congrArg List.length e; rw [List.length_drop, bs_length] at this; simp at this; omega), ← dec_dL, hd] at hst
      simp only [List.drop_drop] at hst
      have HK2 := Aside0.mk (Lib.iterAt_heap wr w.heap.size s pos (pos + d) HK.out)
      have HB2 := Aside0.mk (Lib.below_iterAt HB.out (Nat.le_refl _) s (pos + d))
      have hmeas := Aside0.mk (iter_pos HK.out)
      have hlt : w.heap.size < wr.heap.size := (Array.getElem?_eq_some_iff.1 HK.out).1
      have hlt2 : w.heap.size < (wr.iterAt w.heap.size s (pos + d)).heap.size := by rw [Lib.iterAt_size]; exact hlt
      have HST := Aside0.mk hst
      clear hd hst
      cases hg : nlF r
      · have hpn : n = pos := by rw [← HST.out, hg]; simp
        subst hpn
        have HG := Aside0.mk hg
        clear hg
        go_wp2_with fail
        refine (nl_at r _ _ HG).mono ?_
        rintro e w1 ⟨rfl, rfl⟩
        go_wp2
        go_ret
        exact ⟨rfl, HB2.out⟩
      · have HG := Aside0.mk hg
        have HST2 : Aside0 (pos + d + runA nlF ((bs s).drop (pos + d)) = n) := ⟨by rw [← HST.out, hg, if_pos rfl]; omega⟩
        clear hg
        go_wp2_with fail
        refine (nl_at r _ _ HG).mono ?_
        rintro e w1 ⟨rfl, rfl⟩
        go_wp2
        go_roundw
        case rel => exact ⟨pos + d, HK2, hn2.1, HST2, HB2⟩
        case measure => rw [iter_pos HK2.out, hmeas.out]; omega
    · have hnx : ∀ ty, (Instr.next (.pointer (some ⟨w.heap.size, 0, none⟩)) true ty).run Tryd.prog wr = _ := fun ty => Lib.run_next_end_at wr w.heap.size s pos ty HK.out hp
      have hpn : n = s.size := by
        have := HV.out
        rw [List.drop_eq_nil_of_le (by rw [bs_length]; omega), runA_nil] at this
        omega
      subst hpn
      go_wp2
      go_ret
      exact ⟨rfl, HB.out⟩
end Go.Proofs.YtbfhglaaombglaaDoor
end
section
namespace Go.Proofs.YtbfhglaaombglaaDoor
set_option linter.unusedVariables false
set_option linter.unusedSimpArgs false
open Go.RowKit Go.Proofs.YtbfhglaaombglaaDoorW.PrintWords
theorem blank_ix : ∀ x : Fin 256, decide (0 ≤ Lib.indexByte [32, 9, 13, 10] ((x.val : Int).toNat.toUInt8)) = blankB x.val := by decide +kernel
theorem sign_ix : ∀ x : Fin 256, decide (0 ≤ Lib.indexByte [123, 125, 40, 41, 59, 61, 44] ((x.val : Int).toNat.toUInt8)) = signB x.val := by decide +kernel
theorem among_blank (x : Nat) (hx : x < 256) (w : World) (b : Bool) (hb : Aside0 (blankB x = b)) : Calls Tryd.prog 25 #[.string ⟨#[32, 9, 13, 10]⟩, .int .u8 (x : Int)] w fun e w' => e = .returned (.bool b) ∧ w = w' := by
  have h := blank_ix ⟨x, hx⟩
  simp only at h
  rw [hb.out] at h
  obtain ⟨y, hy⟩ : ∃ y, Lib.indexByte [32, 9, 13, 10] ((x : Int).toNat.toUInt8) = y := ⟨_, rfl⟩
  rw [hy] at h
  have HY : Aside0 (Lib.indexByte (⟨#[32, 9, 13, 10]⟩ : ByteArray).data.toList ((x : Int).toNat.toUInt8) = y) := ⟨hy⟩
  clear hy hb
  go_enter Tryd.func25, Tryd.ntmps25
  go_wp2_with fail
  refine (Tryd.strings_IndexByte _ _ _).mono ?_
  rintro e w1 ⟨rfl, rfl⟩
  rw [HY.out]
  go_wp2
  go_ret
  exact ⟨rfl, rfl⟩
theorem among_sign (x : Nat) (hx : x < 256) (w : World) (b : Bool) (hb : Aside0 (signB x = b)) : Calls Tryd.prog 25 #[.string ⟨#[123, 125, 40, 41, 59, 61, 44]⟩, .int .u8 (x : Int)] w fun e w' => e = .returned (.bool b) ∧ w = w' := by
  have h := sign_ix ⟨x, hx⟩
  simp only at h
  rw [hb.out] at h
  obtain ⟨y, hy⟩ : ∃ y, Lib.indexByte [123, 125, 40, 41, 59, 61, 44] ((x : Int).toNat.toUInt8) = y := ⟨_, rfl⟩
  rw [hy] at h
  have HY : Aside0 (Lib.indexByte (⟨#[123, 125, 40, 41, 59, 61, 44]⟩ : ByteArray).data.toList ((x : Int).toNat.toUInt8) = y) := ⟨hy⟩
  clear hy hb
  go_enter Tryd.func25, Tryd.ntmps25
  go_wp2_with fail
  refine (Tryd.strings_IndexByte _ _ _).mono ?_
  rintro e w1 ⟨rfl, rfl⟩
  rw [HY.out]
  go_wp2
  go_ret
  exact ⟨rfl, rfl⟩
theorem pre_slash (t : ByteArray) : Lib.hasPrefix t.data.toList (⟨#[47, 47]⟩ : ByteArray).data.toList = slashB (bs t) := by
  obtain ⟨⟨l⟩⟩ := t
  show List.isPrefixOf [47, 47] l = slashB (l.map UInt8.toNat)
  have h47 : ∀ x : UInt8, ((47 : UInt8) == x) = (x.toNat == 47) := by
    intro x
    rw [Bool.eq_iff_iff, beq_iff_eq, beq_iff_eq]
    constructor
    · rintro rfl; rfl
    · intro h; exact UInt8.toNat_inj.1 h.symm
  rcases l with _ | ⟨a, _ | ⟨b, l⟩⟩
  · rfl
  · simp [slashB, List.isPrefixOf]
  · simp [slashB, List.isPrefixOf, h47]
/-- The values of pieces. -/
def tvals (s : ByteArray) (l : List (Nat × Nat × Nat)) : List Value := l.flatMap fun t => [.int .i64 (t.1 : Int), .string (s.extract t.2.1 (t.2.1 + t.2.2)), .int .i64 (t.2.1 : Int)]
theorem tvals_snoc (s : ByteArray) (l : List (Nat × Nat × Nat)) (t : Nat × Nat × Nat) : tvals s (l ++ [t]) = tvals s l ++ [.int .i64 (t.1 : Int), .string (s.extract t.2.1 (t.2.1 + t.2.2)), .int .i64 (t.2.1 : Int)] := by simp [tvals]
theorem infoTok : (Tryd.prog.info? 59).map (fun i => (i.zero, i.size, i.bytes)) = some (some (.agg #[.int .i64 0, .string ByteArray.empty, .int .i64 0]), 3, 32) := by kernel_rfl
abbrev Toks (s : ByteArray) (base : Nat) (w : World) (v : Value) (l : List (Nat × Nat × Nat)) : Prop := w.ownsRow base 59 3 v l.length (tvals s l)
/-- How Tokens returns. -/
def TokPost (s : ByteArray) (w : World) (L : List (Nat × Nat × Nat)) (E : Option (Nat × Nat)) (e : Ending) (w' : World) : Prop :=
  match E with
  | none => ∃ v, e = .returned (.tuple #[v, .int .i64 0, .int .i64 0]) ∧ Aside0 (Toks s w.heap.size w' v L) ∧ Aside0 (Below w.heap.size w w')
  | some (a, er) => e = .returned (.tuple #[.slice none 0 0, .int .i64 (a : Int), .int .i64 (er : Int)]) ∧ Aside0 (Below w.heap.size w w')
theorem nextG_err (s : ByteArray) (p : Nat) (hp : p < s.size) (h : (Utf8.decode s p).1 = 65533 ∧ (Utf8.decode s p).2 < 2) : nextG s (p : Int) = (0, 0, false) := by
  rw [nextG, if_neg (by omega), Int.toNat_natCast, if_pos h]
theorem nextG_fine (s : ByteArray) (p : Nat) (hp : p < s.size) (h : ¬ ((Utf8.decode s p).1 = 65533 ∧ (Utf8.decode s p).2 < 2)) : nextG s (p : Int) = ((Utf8.decode s p).1, (Utf8.decode s p).2, true) := by
  rw [nextG, if_neg (by omega), Int.toNat_natCast, if_neg h]
theorem cut_str (s : ByteArray) (p m : Nat) (h1 : p ≤ m) (h2 : m ≤ s.size) (W : World) : (Instr.slice 9 (.string s) (some (.int .i64 (p : Int))) (some (.int .i64 (m : Int))) none).run Tryd.prog W = .ok (.string (s.extract p m)) W := by
  have := run_slice_string (P := Tryd.prog) W 9 s .i64 .i64 (p : Int) (m : Int) Tryd.underlying9 (by omega) (by omega) (by omega)
  rw [Int.toNat_natCast, Int.toNat_natCast] at this
  exact this
set_option maxRecDepth 100000 in
set_option maxHeartbeats 4000000 in
theorem tokens_run (s : ByteArray) (w : World) (hs : s.size ≤ 16384) (hT : Tabs w) (L : List (Nat × Nat × Nat)) (E : Option (Nat × Nat)) (hR : Aside0 (toksA 0 (bs s) = (L, E))) :
    Calls Tryd.prog 15 #[.string s] w (TokPost s w L E) := by
  have HT := Aside0.mk hT
  clear hT
  have hb1 : decide (16384 < s.size) = false := decide_eq_false (by omega)
  have hb2 : decide ((16384 : Int) < (s.size : Int)) = false := decide_eq_false (by omega)
  go_enter Tryd.func15, Tryd.ntmps15
  go_wp2_with fail
  go_loopw [5, 6] (fun v u wr => ∃ (v' : Value) (p : Nat) (acc : List (Nat × Nat × Nat)), v' = v ∧ u = .int .i64 (p : Int) ∧ p ≤ s.size ∧ acc.length ≤ p ∧ Aside0 (acc ++ (toksA p ((bs s).drop p)).1 = L) ∧ Aside0 ((toksA p ((bs s).drop p)).2 = E) ∧ Aside0 (Toks s w.heap.size wr v' acc) ∧ Aside0 (Below w.heap.size w wr)) (fun _ u _ => s.size - (intOf u).toNat)
  case atStart => exact ⟨_, 0, [], rfl, rfl, by omega, Nat.zero_le _, ⟨by rw [List.drop_zero, hR.out]; rfl⟩, ⟨by rw [List.drop_zero, hR.out]⟩, ⟨⟨rfl, .inl ⟨rfl, rfl⟩⟩⟩, ⟨Below.refl _ _⟩⟩
  case round =>
    obtain ⟨v0, p, acc, rfl, rfl, hp, hacc, HL, HE, HO, HB⟩ := hrel
    by_cases hlt : p < s.size
    · obtain ⟨u, hu⟩ : ∃ u, (bs s).drop p = u := ⟨_, rfl⟩
      have hu0 : u ≠ [] := by intro e; rw [e] at hu; have := congrArg List.length hu; rw [List.length_drop, bs_length] at this; simp at this; omega
      obtain ⟨t, ht⟩ : ∃ t, s.extract p s.size = t := ⟨_, rfl⟩
      have hbt : bs t = u := by
        rw [← ht, bs_extract, hu, ← hu, List.take_of_length_le (by rw [List.length_drop, bs_length]; omega)]
      have htz : t.size = s.size - p := by rw [← bs_length, hbt, ← hu, List.length_drop, bs_length]
      obtain ⟨x, hx⟩ : ∃ x, bt8 s p = x := ⟨_, rfl⟩
      have hx0 : u.getD 0 0 = x := by rw [← hu, getD_drop', Nat.add_zero, bs_getD, hx]
      have hsi : (s[p]'hlt).toNat = x := by rw [bt8_at, hx]
      have hxl : x < 256 := by rw [← hx]; exact bt8_lt s p
      obtain ⟨r, d, hd⟩ : ∃ r d, dL u = (r, d) := ⟨_, _, rfl⟩
      have hdec : Utf8.decode s p = (r, d) := by rw [dec_dL, hu, hd]
      have hl := HL.out
      have he := HE.out
      rw [hu] at hl he
      have hst : stepL u = _ := rfl
      conv at hst => rhs; unfold stepL
      rw [hd, hx0] at hst
      simp only at hst
      have HBT := Aside0.mk hbt
      by_cases c1 : r = 65533 ∧ d < 2
      · rw [if_pos c1] at hst
        rw [toksA_err p u hu0 9 hst] at hl he
        simp only [List.append_nil] at hl
        have HG := Aside0.mk (nextG_err s p hlt (by rw [hdec]; exact c1))
        subst hl he
        clear c1 hst hd hdec hx hu HL HE
        go_wp2_with fail
        refine (next_at s (p : Int) _ (by omega) (tabs_below HT.out HB.out) 0 0 false HG).mono ?_
        rintro e w2 ⟨rfl, hB2⟩
        have HB2 := Aside0.mk (HB.out.trans (hB2.mono HB.out.size))
        clear hB2
        go_wp2
        go_ret3
        exact ⟨rfl, HB2⟩
      · rw [if_neg c1] at hst
        have HG : Aside0 (nextG s (p : Int) = (r, d, true)) := ⟨by rw [nextG_fine s p hlt (by rw [hdec]; exact c1), hdec]⟩
        have hrl : r ≤ 1114111 := by have := (dec_le s p hlt).2.2; rw [hdec] at this; exact this
        clear c1 hd hdec hx
        by_cases c2 : blankB x = true
        · rw [if_pos c2] at hst
          rw [toksA_blank p u hu0 1 hst, ← hu, List.drop_drop] at hl he
          have HL2 := Aside0.mk hl
          have HE2 := Aside0.mk he
          have HC2 := Aside0.mk c2
          clear hst hu hl he HL HE c2
          go_wp2_with fail
          refine (next_at s (p : Int) _ (by omega) (tabs_below HT.out HB.out) r d true HG).mono ?_
          rintro e w2 ⟨rfl, hB2⟩
          have HB2 := Aside0.mk (HB.out.trans (hB2.mono HB.out.size))
          have HO2 : Aside0 (Toks s w.heap.size w2 v0 acc) := ⟨pw_own_below HO.out hB2⟩
          clear hB2
          go_wp2_with fail
          refine (among_blank x hxl _ true HC2).mono ?_
          rintro e w3 ⟨rfl, rfl⟩
          go_wp2
          go_roundw
          case rel => exact ⟨v0, p + 1, acc, rfl, by go_num, by omega, by omega, HL2, HE2, HO2, HB2⟩
          case measure => simp [intOf]; omega
        · rw [if_neg c2] at hst
          have HC2 : Aside0 (blankB x = false) := ⟨by simpa using c2⟩
          clear c2
          by_cases c3 : slashB u = true
          · rw [if_pos c3] at hst
            obtain ⟨n, hn⟩ : ∃ n, runA nlF u = n := ⟨_, rfl⟩
            rw [hn] at hst
            obtain ⟨hb3, hb4, hb5⟩ := step_bound u hu0 0 n hst
            have hul : u.length = s.size - p := by rw [← hu, List.length_drop, bs_length]
            rw [toksA_blank p u hu0 n hst, ← hu, List.drop_drop] at hl he
            have HL2 := Aside0.mk hl
            have HE2 := Aside0.mk he
            have HC3 : Aside0 (Lib.hasPrefix t.data.toList (⟨#[47, 47]⟩ : ByteArray).data.toList = true) := ⟨by rw [pre_slash, HBT.out, c3]⟩
            have HN : Aside0 (runA nlF (bs t) = n) := ⟨by rw [HBT.out, hn]⟩
            clear hst hu hl he HL HE c3 hn
            go_wp2_with fail
            refine (next_at s (p : Int) _ (by omega) (tabs_below HT.out HB.out) r d true HG).mono ?_
            rintro e w2 ⟨rfl, hB2⟩
            have HB2 := Aside0.mk (HB.out.trans (hB2.mono HB.out.size))
            have HO2 : Aside0 (Toks s w.heap.size w2 v0 acc) := ⟨pw_own_below HO.out hB2⟩
            clear hB2
            go_wp2_with fail
            refine (among_blank x hxl _ false HC2).mono ?_
            rintro e w3 ⟨rfl, rfl⟩
            go_wp2_with fail
            refine (Tryd.strings_HasPrefix t _ _).mono ?_
            rintro e w3 ⟨rfl, rfl⟩
            rw [HC3.out]
            go_wp2_with fail
            refine (run_line t _ (by omega) n HN).mono ?_
            rintro e w3 ⟨rfl, hB3⟩
            have HB3 := Aside0.mk (HB2.out.trans (hB3.mono HB2.out.size))
            have HO3 : Aside0 (Toks s w.heap.size w3 v0 acc) := ⟨pw_own_below HO2.out hB3⟩
            clear hB3
            go_wp2
            go_roundw
            case rel => exact ⟨v0, p + n, acc, rfl, by go_num, by omega, by omega, HL2, HE2, HO3, HB3⟩
            case measure => simp [intOf]; omega
          · rw [if_neg c3] at hst
            have HC3 : Aside0 (Lib.hasPrefix t.data.toList (⟨#[47, 47]⟩ : ByteArray).data.toList = false) := ⟨by rw [pre_slash, HBT.out]; simpa using c3⟩
            clear c3
            have hul : u.length = s.size - p := by rw [← hu, List.length_drop, bs_length]
            by_cases c4 : letterF (r : Int) = true
            · rw [if_pos c4] at hst
              obtain ⟨n, hn⟩ : ∃ n, runA partF u = n := ⟨_, rfl⟩
              rw [hn] at hst
              obtain ⟨hb3, hb4, hb5⟩ := step_bound u hu0 1 n hst
              rw [toksA_tok p u hu0 0 n hst, ← hu, List.drop_drop] at hl he
              have HL2 : Aside0 ((acc ++ [(1, p, n)]) ++ (toksA (p + n) ((bs s).drop (p + n))).1 = L) := ⟨by rw [List.append_assoc]; exact hl⟩
              have HE2 := Aside0.mk he
              have HN : Aside0 (runA partF (bs t) = n) := ⟨by rw [HBT.out, hn]⟩
              have HC4 := Aside0.mk c4
              obtain ⟨m, hm⟩ : ∃ m, p + n = m := ⟨_, rfl⟩
              have hmi : (p : Int) + (n : Int) = (m : Int) := by omega
              have hcut := fun W => cut_str s p m (by omega) (by omega) W
              clear hst hu hl he HL HE c4 hn
              go_wp2_with fail
              refine (next_at s (p : Int) _ (by omega) (tabs_below HT.out HB.out) r d true HG).mono ?_
              rintro e w2 ⟨rfl, hB2⟩
              have HB2 := Aside0.mk (HB.out.trans (hB2.mono HB.out.size))
              have HO2 : Aside0 (Toks s w.heap.size w2 v0 acc) := ⟨pw_own_below HO.out hB2⟩
              clear hB2
              go_wp2_with fail
              refine (among_blank x hxl _ false HC2).mono ?_
              rintro e w3 ⟨rfl, rfl⟩
              go_wp2_with fail
              refine (Tryd.strings_HasPrefix t _ _).mono ?_
              rintro e w3 ⟨rfl, rfl⟩
              rw [HC3.out]
              go_wp2_with fail
              refine (letter_any (r : Int) _ true HC4).mono ?_
              rintro e w3 ⟨rfl, rfl⟩
              go_wp2_with fail
              refine (run_part t _ (by omega) n HN).mono ?_
              rintro e w3 ⟨rfl, hB3⟩
              have HB3 := Aside0.mk (HB2.out.trans (hB3.mono HB2.out.size))
              have HO3 : Aside0 (Toks s w.heap.size w3 v0 acc) := ⟨pw_own_below HO2.out hB3⟩
              clear hB3
              go_wp2_with (at_builtin; go_must (refine print_append_cells (w0 := w) w.heap.size rfl _ _ 49 59 _ 3 32 rfl Tryd.underlying49 infoTok rfl (by omega) (by omega) _ acc.length (tvals s acc) [.int .i64 1, .string (s.extract p m), .int .i64 (p : Int)] rfl rfl rfl (by simp [Value.oneCell']) (by exact HO3.out) (by exact HB3.out) (by exact HB3.out.size) (by omega) ?_; intro v1 w4 hO4 hB4 _ _))
              go_roundw
              case rel => exact ⟨v1, m, acc ++ [(1, p, n)], rfl, by go_num, by omega, by simp; omega, by rw [← hm]; exact HL2, by rw [← hm]; exact HE2, ⟨by rw [Toks, tvals_snoc, List.length_append]; simp only; rw [hm]; exact hO4⟩, ⟨hB4⟩⟩
              case measure => simp [intOf]; omega
            · rw [if_neg c4] at hst
              have HC4 : Aside0 (letterF (r : Int) = false) := ⟨by simpa using c4⟩
              clear c4
              by_cases c5 : dgF r = true
              · rw [if_pos c5] at hst
                obtain ⟨n, hn⟩ : ∃ n, runA dgF u = n := ⟨_, rfl⟩
                rw [hn] at hst
                obtain ⟨hb3, hb4, hb5⟩ := step_bound u hu0 2 n hst
                rw [toksA_tok p u hu0 1 n hst, ← hu, List.drop_drop] at hl he
                have HL2 : Aside0 ((acc ++ [(2, p, n)]) ++ (toksA (p + n) ((bs s).drop (p + n))).1 = L) := ⟨by rw [List.append_assoc]; exact hl⟩
                have HE2 := Aside0.mk he
                have HN : Aside0 (runA dgF (bs t) = n) := ⟨by rw [HBT.out, hn]⟩
                have HC5 : Aside0 (digitF (r : Int) = true) := ⟨c5⟩
                obtain ⟨m, hm⟩ : ∃ m, p + n = m := ⟨_, rfl⟩
                have hmi : (p : Int) + (n : Int) = (m : Int) := by omega
                have hcut := fun W => cut_str s p m (by omega) (by omega) W
                clear hst hu hl he HL HE c5 hn
                go_wp2_with fail
                refine (next_at s (p : Int) _ (by omega) (tabs_below HT.out HB.out) r d true HG).mono ?_
                rintro e w2 ⟨rfl, hB2⟩
                have HB2 := Aside0.mk (HB.out.trans (hB2.mono HB.out.size))
                have HO2 : Aside0 (Toks s w.heap.size w2 v0 acc) := ⟨pw_own_below HO.out hB2⟩
                clear hB2
                go_wp2_with fail
                refine (among_blank x hxl _ false HC2).mono ?_
                rintro e w3 ⟨rfl, rfl⟩
                go_wp2_with fail
                refine (Tryd.strings_HasPrefix t _ _).mono ?_
                rintro e w3 ⟨rfl, rfl⟩
                rw [HC3.out]
                go_wp2_with fail
                refine (letter_any (r : Int) _ false HC4).mono ?_
                rintro e w3 ⟨rfl, rfl⟩
                go_wp2_with fail
                refine (digit_any (r : Int) _ true HC5).mono ?_
                rintro e w3 ⟨rfl, rfl⟩
                go_wp2_with fail
                refine (run_digits t _ (by omega) n HN).mono ?_
                rintro e w3 ⟨rfl, hB3⟩
                have HB3 := Aside0.mk (HB2.out.trans (hB3.mono HB2.out.size))
                have HO3 : Aside0 (Toks s w.heap.size w3 v0 acc) := ⟨pw_own_below HO2.out hB3⟩
                clear hB3
                go_wp2_with (at_builtin; go_must (refine print_append_cells (w0 := w) w.heap.size rfl _ _ 49 59 _ 3 32 rfl Tryd.underlying49 infoTok rfl (by omega) (by omega) _ acc.length (tvals s acc) [.int .i64 2, .string (s.extract p m), .int .i64 (p : Int)] rfl rfl rfl (by simp [Value.oneCell']) (by exact HO3.out) (by exact HB3.out) (by exact HB3.out.size) (by omega) ?_; intro v1 w4 hO4 hB4 _ _))
                go_roundw
                case rel => exact ⟨v1, m, acc ++ [(2, p, n)], rfl, by go_num, by omega, by simp; omega, by rw [← hm]; exact HL2, by rw [← hm]; exact HE2, ⟨by rw [Toks, tvals_snoc, List.length_append]; simp only; rw [hm]; exact hO4⟩, ⟨hB4⟩⟩
                case measure => simp [intOf]; omega
              · rw [if_neg c5] at hst
                have HC5 : Aside0 (digitF (r : Int) = false) := ⟨by simpa [dgF] using c5⟩
                clear c5
                by_cases c6 : signB x = true
                · rw [if_pos c6] at hst
                  rw [toksA_tok p u hu0 2 1 hst, ← hu, List.drop_drop] at hl he
                  have HL2 : Aside0 ((acc ++ [(3, p, 1)]) ++ (toksA (p + 1) ((bs s).drop (p + 1))).1 = L) := ⟨by rw [List.append_assoc]; exact hl⟩
                  have HE2 := Aside0.mk he
                  have HC6 := Aside0.mk c6
                  clear hst hu hl he HL HE c6
                  obtain ⟨m, hm⟩ : ∃ m, p + 1 = m := ⟨_, rfl⟩
                  have hmi : (p : Int) + 1 = (m : Int) := by omega
                  have hcut := fun W => cut_str s p m (by omega) (by omega) W
                  go_wp2_with fail
                  refine (next_at s (p : Int) _ (by omega) (tabs_below HT.out HB.out) r d true HG).mono ?_
                  rintro e w2 ⟨rfl, hB2⟩
                  have HB2 := Aside0.mk (HB.out.trans (hB2.mono HB.out.size))
                  have HO2 : Aside0 (Toks s w.heap.size w2 v0 acc) := ⟨pw_own_below HO.out hB2⟩
                  clear hB2
                  go_wp2_with fail
                  refine (among_blank x hxl _ false HC2).mono ?_
                  rintro e w3 ⟨rfl, rfl⟩
                  go_wp2_with fail
                  refine (Tryd.strings_HasPrefix t _ _).mono ?_
                  rintro e w3 ⟨rfl, rfl⟩
                  rw [HC3.out]
                  go_wp2_with fail
                  refine (letter_any (r : Int) _ false HC4).mono ?_
                  rintro e w3 ⟨rfl, rfl⟩
                  go_wp2_with fail
                  refine (digit_any (r : Int) _ false HC5).mono ?_
                  rintro e w3 ⟨rfl, rfl⟩
                  go_wp2_with fail
                  refine (among_sign x hxl _ true HC6).mono ?_
                  rintro e w3 ⟨rfl, rfl⟩
                  go_wp2_with (at_builtin; go_must (refine print_append_cells (w0 := w) w.heap.size rfl _ _ 49 59 _ 3 32 rfl Tryd.underlying49 infoTok rfl (by omega) (by omega) _ acc.length (tvals s acc) [.int .i64 3, .string (s.extract p m), .int .i64 (p : Int)] rfl rfl rfl (by simp [Value.oneCell']) (by exact HO2.out) (by exact HB2.out) (by exact HB2.out.size) (by omega) ?_; intro v1 w4 hO4 hB4 _ _))
                  go_roundw
                  case rel => exact ⟨v1, m, acc ++ [(3, p, 1)], rfl, by go_num, by omega, by simp; omega, by rw [← hm]; exact HL2, by rw [← hm]; exact HE2, ⟨by rw [Toks, tvals_snoc, List.length_append]; simp only; rw [hm]; exact hO4⟩, ⟨hB4⟩⟩
                  case measure => simp [intOf]; omega
                · rw [if_neg c6] at hst
                  rw [toksA_err p u hu0 5 hst] at hl he
                  simp only [List.append_nil] at hl
                  have HC6 : Aside0 (signB x = false) := ⟨by simpa using c6⟩
                  subst hl he
                  clear hst hu HL HE c6
                  go_wp2_with fail
                  refine (next_at s (p : Int) _ (by omega) (tabs_below HT.out HB.out) r d true HG).mono ?_
                  rintro e w2 ⟨rfl, hB2⟩
                  have HB2 := Aside0.mk (HB.out.trans (hB2.mono HB.out.size))
                  clear hB2
                  go_wp2_with fail
                  refine (among_blank x hxl _ false HC2).mono ?_
                  rintro e w3 ⟨rfl, rfl⟩
                  go_wp2_with fail
                  refine (Tryd.strings_HasPrefix t _ _).mono ?_
                  rintro e w3 ⟨rfl, rfl⟩
                  rw [HC3.out]
                  go_wp2_with fail
                  refine (letter_any (r : Int) _ false HC4).mono ?_
                  rintro e w3 ⟨rfl, rfl⟩
                  go_wp2_with fail
                  refine (digit_any (r : Int) _ false HC5).mono ?_
                  rintro e w3 ⟨rfl, rfl⟩
                  go_wp2_with fail
                  refine (among_sign x hxl _ false HC6).mono ?_
                  rintro e w3 ⟨rfl, rfl⟩
                  go_wp2
                  go_ret3
                  exact ⟨rfl, HB2⟩
    · have hl := HL.out
      have he := HE.out
      rw [List.drop_eq_nil_of_le (by rw [bs_length]; omega), toksA_nil] at hl he
      simp only [List.append_nil] at hl
      subst hl he
      clear HL HE
      go_wp2
      go_ret3
      exact ⟨v0, rfl, HO, HB⟩
end Go.Proofs.YtbfhglaaombglaaDoor
end
section
namespace Go.Proofs.YtbfhglaaombglaaDoor
set_option linter.unusedVariables false
set_option linter.unusedSimpArgs false
open Go.RowKit Go.Proofs.YtbfhglaaombglaaDoorW.PrintWords
/-- A slice of pieces, as it is read. -/
def TR (s : ByteArray) (w : World) (A : Option Addr) (L : List (Nat × Nat × Nat)) : Prop :=
  L.length ≤ 9223372036854775807 ∧ (0 < L.length → ∃ g, A = some ⟨g, 0, none⟩ ∧ ∀ j t, L[j]? = some t →
    w.cell? ⟨g, j * 3, none⟩ = some (.int .i64 (t.1 : Int)) ∧ w.cell? ⟨g, j * 3 + 1, none⟩ = some (.string (s.extract t.2.1 (t.2.1 + t.2.2))) ∧ w.cell? ⟨g, j * 3 + 2, none⟩ = some (.int .i64 (t.2.1 : Int)))
theorem tvals_at (s : ByteArray) : ∀ (l : List (Nat × Nat × Nat)) (j : Nat) (t : Nat × Nat × Nat), l[j]? = some t →
    (tvals s l)[j * 3]? = some (.int .i64 (t.1 : Int)) ∧ (tvals s l)[j * 3 + 1]? = some (.string (s.extract t.2.1 (t.2.1 + t.2.2))) ∧ (tvals s l)[j * 3 + 2]? = some (.int .i64 (t.2.1 : Int)) := by
  intro l
  induction l with
  | nil => intro j t h; simp at h
  | cons a l ih =>
    intro j t h
    have e : tvals s (a :: l) = .int .i64 (a.1 : Int) :: .string (s.extract a.2.1 (a.2.1 + a.2.2)) :: .int .i64 (a.2.1 : Int) :: tvals s l := rfl
    rw [e]
    cases j with
    | zero =>
      have : a = t := by simpa using h
      subst this
      exact ⟨rfl, rfl, rfl⟩
    | succ j =>
      have h1 := ih j t (by simpa using h)
      rw [Nat.succ_mul]
      exact h1
theorem toks_read {s : ByteArray} {base : Nat} {w : World} {v : Value} {L : List (Nat × Nat × Nat)} (h : Toks s base w v L) : ∃ A c, v = .slice A L.length c ∧ TR s w A L := by
  obtain ⟨_, h2⟩ := h
  rcases h2 with ⟨rfl, h0⟩ | ⟨g, cap, cur, rfl, _, hh, h1, hm, hc, ht⟩
  · exact ⟨none, 0, by rw [h0], by omega, fun hn => absurd hn (by omega)⟩
  · refine ⟨_, cap, rfl, by simp only [maxLen] at hm; omega, fun _ => ⟨g, rfl, fun j t hj => ?_⟩⟩
    obtain ⟨a1, a2, a3⟩ := tvals_at s L j t hj
    rw [← ht] at a1 a2 a3
    have hget : ∀ (i : Nat) (u : Value), (cur.toList.take (L.length * 3))[i]? = some u → cur[i]? = some u := by
      intro i u hu
      rw [List.getElem?_take] at hu
      split at hu
      · rw [← Array.getElem?_toList]; exact hu
      · cases hu
    refine ⟨?_, ?_, ?_⟩
    · rw [blk_cell hh]; exact hget _ _ a1
    · rw [blk_cell hh]; exact hget _ _ a2
    · rw [blk_cell hh]; exact hget _ _ a3
theorem tokens_big (s : ByteArray) (w : World) (hs : 16384 < s.size) :
    Calls Tryd.prog 15 #[.string s] w fun e w' => e = .returned (.tuple #[.slice none 0 0, .int .i64 0, .int .i64 4]) ∧ w = w' := by
  have hb1 : decide (16384 < s.size) = true := decide_eq_true hs
  have hb2 : decide ((16384 : Int) < (s.size : Int)) = true := decide_eq_true (by omega)
  go_enter Tryd.func15, Tryd.ntmps15
  go_wp2
  go_ret3
  exact ⟨rfl, rfl⟩
theorem tokens_err (s : ByteArray) (w : World) (hs : s.size ≤ 16384) (hT : Tabs w) (L : List (Nat × Nat × Nat)) (a er : Nat) (hR : Aside0 (toksA 0 (bs s) = (L, some (a, er)))) :
    Calls Tryd.prog 15 #[.string s] w fun e w' => e = .returned (.tuple #[.slice none 0 0, .int .i64 (a : Int), .int .i64 (er : Int)]) ∧ Aside0 (Below w.heap.size w w') :=
  tokens_run s w hs hT L (some (a, er)) hR
end Go.Proofs.YtbfhglaaombglaaDoor
end
section
namespace Go.Proofs.YtbfhglaaombglaaDoor
set_option linter.unusedVariables false
set_option linter.unusedSimpArgs false
open Go.RowKit Go.Proofs.YtbfhglaaombglaaDoorW.PrintWords
end Go.Proofs.YtbfhglaaombglaaDoor
end
section
namespace Go.Proofs.YtbfhglaaombglaaDoor
set_option linter.unusedVariables false
set_option linter.unusedSimpArgs false
open Go.RowKit Go.Proofs.YtbfhglaaombglaaDoorW.PrintWords
end Go.Proofs.YtbfhglaaombglaaDoor
end
section
namespace Go.Proofs.YtbfhglaaombglaaDoor
set_option linter.unusedVariables false
set_option linter.unusedSimpArgs false
open Go.RowKit Go.Proofs.YtbfhglaaombglaaDoorW.PrintWords
end Go.Proofs.YtbfhglaaombglaaDoor
end
section
namespace Go.Proofs.YtbfhglaaombglaaDoor
set_option linter.unusedVariables false
set_option linter.unusedSimpArgs false
open Go.RowKit Go.Proofs.YtbfhglaaombglaaDoorW.PrintWords
/-- How many bytes there are to a line's end. -/
def lineL : List Nat → Nat
  | [] => 0
  | b :: u => if b = 10 then 0 else 1 + lineL u
theorem drop_cons (s : ByteArray) (q : Nat) (h : q < s.size) : (bs s).drop q = bt8 s q :: (bs s).drop (q + 1) := by
  have hl : q < (bs s).length := by rw [bs_length]; exact h
  rw [List.drop_eq_getElem_cons hl, ← bs_getD, List.getD_eq_getElem?_getD, List.getElem?_eq_getElem hl]
  rfl
end Go.Proofs.YtbfhglaaombglaaDoor
end
section
namespace Go.Proofs.YtbfhglaaombglaaDoor
set_option linter.unusedVariables false
set_option linter.unusedSimpArgs false
open Go.RowKit Go.Proofs.YtbfhglaaombglaaDoorW.PrintWords
/-- The number that digits are, behind a number. -/
def numL : Nat → List Nat → Option Nat
  | a, [] => some a
  | a, b :: u => if 48 ≤ b ∧ b ≤ 57 then numL (10 * a + (b - 48)) u else none
def numF (s : ByteArray) : Nat × Bool :=
  if s.size < 1 ∨ 10 < s.size ∨ (1 < s.size ∧ bt8 s 0 = 48) then (0, false) else match numL 0 (bs s) with
    | none => (0, false)
    | some v => (v, true)
theorem str_empty (s : ByteArray) (b : Bool) (h : decide (s.size = 0) = b) : (s.toList == []) = b := by
  rw [ByteArray.toList_eq, ← h]
  have e : s.data.toList.length = s.size := Array.length_toList
  cases hl : s.data.toList with
  | nil => rw [hl] at e; simp at e; simp [e.symm]
  | cons x l => rw [hl] at e; simp at e; simp [e.symm]
theorem pow10 (p : Nat) (h : p ≤ 10) : 10 ^ p ≤ 10000000000 := Nat.le_trans (Nat.pow_le_pow_right (by omega) h) (by decide)
set_option maxRecDepth 100000 in
set_option maxHeartbeats 2000000 in
theorem number_run (s : ByteArray) (w : World) (h1 : 1 ≤ s.size) (h2 : s.size ≤ 10) (h3 : ¬ (1 < s.size ∧ bt8 s 0 = 48)) (v : Nat) (ok : Bool) (hv : Aside0 (numF s = (v, ok))) :
    Calls Tryd.prog 65 #[.string s] w fun e w' => e = .returned (.tuple #[.int .i64 (v : Int), .bool ok]) ∧ Aside0 (Below w.heap.size w w') := by
  have e0 := str_empty s false (decide_eq_false (by omega))
  have e1 : decide (10 < s.size) = false := decide_eq_false (by omega)
  have e2 : decide ((10 : Int) < (s.size : Int)) = false := decide_eq_false (by omega)
  have hx0 : 0 < s.size := by omega
  obtain ⟨x, hx⟩ : ∃ x, bt8 s 0 = x := ⟨_, rfl⟩
  have hsi0 : (s[0]'hx0).toNat = x := by rw [bt8_at, hx]
  rw [hx] at h3
  obtain ⟨b1, hb1⟩ : ∃ b, decide (1 < s.size) = b := ⟨_, rfl⟩
  have hb1i : decide ((1 : Int) < (s.size : Int)) = b1 := by rw [← hb1]; exact decide_eq_decide.2 (by omega)
  obtain ⟨b2, hb2⟩ : ∃ b, ((x : Int) == 48) = b := ⟨_, rfl⟩
  have hbb : b1 = true → b2 = false := by
    intro h
    rw [← hb1] at h
    rw [← hb2, beq_eq_false_iff_ne]
    intro e
    exact h3 ⟨of_decide_eq_true h, by omega⟩
  have HO : Aside0 (numF s = match numL 0 (bs s) with | none => (0, false) | some v => (v, true)) := ⟨by rw [numF, if_neg (by rw [hx]; omega)]⟩
  rw [hv.out] at HO
  clear hv hx h3
  go_enter Tryd.func65, Tryd.ntmps65
  have key : ∀ K : Prop, (b1 = false → K) → (b1 = true → b2 = false → K) → K := by
    intro K k1 k2
    cases b1 with
    | false => exact k1 rfl
    | true => exact k2 rfl (hbb rfl)
  refine key _ (fun q1 => ?_) (fun q1 q2 => ?_)
  all_goals (
    clear key hbb
    try subst q2
    subst q1
    go_wp2_with fail
    go_loopw [4] (fun z wr => ∃ (pos a : Nat), z = .int .i64 (a : Int) ∧ pos ≤ s.size ∧ Aside0 (a < 10 ^ pos) ∧ Aside0 (wr.heap[w.heap.size]? = some (.stringIter s pos)) ∧ Aside0 (numL 0 (bs s) = numL a ((bs s).drop pos)) ∧ Aside0 (Below w.heap.size w wr)) (fun _ wr => s.size - wr.iterPos w.heap.size)
    case atStart => exact ⟨0, 0, rfl, by omega, ⟨by decide⟩, ⟨World.iter_heap w s 0⟩, ⟨by rw [List.drop_zero]⟩, ⟨(Below.refl _ _).alloc (Nat.le_refl _) _⟩⟩
    case round =>
      obtain ⟨pos, a, rfl, hpos, HA, HK, HV, HB⟩ := hrel
      by_cases hp : pos < s.size
      · obtain ⟨r, d, hd⟩ : ∃ r d, Utf8.decode s pos = (r, d) := ⟨_, _, rfl⟩
        have hnx : ∀ ty, (Instr.next (.pointer (some ⟨w.heap.size, 0, none⟩)) true ty).run Tryd.prog wr = _ := fun ty => Lib.run_next_any_at wr w.heap.size s pos ty HK.out hp
        simp only [hd] at hnx
        obtain ⟨y, hy⟩ : ∃ y, bt8 s pos = y := ⟨_, rfl⟩
        have hst := HV.out
        rw [drop_cons s pos hp, hy, numL] at hst
        have hdl : Utf8.decode s pos = dL (y :: (bs s).drop (pos + 1)) := by rw [dec_dL, drop_cons s pos hp, hy]
        rw [hd] at hdl
        have HK2 := Aside0.mk (Lib.iterAt_heap wr w.heap.size s pos (pos + d) HK.out)
        have HB2 := Aside0.mk (Lib.below_iterAt HB.out (Nat.le_refl _) s (pos + d))
        have hmeas := Aside0.mk (iter_pos HK.out)
        by_cases hdg : 48 ≤ y ∧ y ≤ 57
        · rw [dL_low y _ (by omega)] at hdl
          cases hdl
          rw [if_pos hdg] at hst
          have ha := HA.out
          have hp10 := pow10 pos (by omega)
          obtain ⟨k, hk⟩ : ∃ k, r - 48 = k := ⟨_, rfl⟩
          obtain ⟨a1, ha1⟩ : ∃ a1, 10 * a = a1 := ⟨_, rfl⟩
          obtain ⟨a2, ha2⟩ : ∃ a2, a1 + k = a2 := ⟨_, rfl⟩
          rw [hk, ha1, ha2] at hst
          have hki : (r : Int) - 48 = (k : Int) := by omega
          have ha1i : 10 * (a : Int) = (a1 : Int) := by omega
          have ha2i : (a1 : Int) + (k : Int) = (a2 : Int) := by omega
          have HA2 : Aside0 (a2 < 10 ^ (pos + 1)) := ⟨by rw [Nat.pow_succ]; omega⟩
          have hab : a1 ≤ 100000000000 := by omega
          have hab2 : a2 ≤ 200000000000 := by omega
          have hkb : k ≤ 9 := by omega
          have HST := Aside0.mk hst
          have HD : Aside0 (digitF (r : Int) = true) := ⟨by rw [digitF, inF, decide_eq_true (by omega), decide_eq_true (by omega)]; rfl⟩
          clear hst hd ha hp10 hk ha1 ha2
          go_wp2_with fail
          refine (digit_any (r : Int) _ true HD).mono ?_
          rintro e w2 ⟨rfl, rfl⟩
          go_wp2
          go_roundw
          case rel => exact ⟨pos + 1, a2, by go_num, by omega, HA2, HK2, HST, HB2⟩
          case measure => rw [iter_pos HK2.out, hmeas.out]; omega
        · rw [if_neg hdg] at hst
          have hrd : digitF (r : Int) = false := by
            by_cases hy1 : y < 128
            · rw [dL_low y _ hy1] at hdl
              cases hdl
              rw [digitF, inF, ← Bool.decide_and, decide_eq_false (by omega)]
            · have hge := decN_ge (y :: (bs s).drop (pos + 1)).length ((y :: (bs s).drop (pos + 1)).getD 0 0) ((y :: (bs s).drop (pos + 1)).getD 1 0) ((y :: (bs s).drop (pos + 1)).getD 2 0) ((y :: (bs s).drop (pos + 1)).getD 3 0) hy1
              have he : Lib.decodeN (y :: (bs s).drop (pos + 1)).length ((y :: (bs s).drop (pos + 1)).getD 0 0) ((y :: (bs s).drop (pos + 1)).getD 1 0) ((y :: (bs s).drop (pos + 1)).getD 2 0) ((y :: (bs s).drop (pos + 1)).getD 3 0) = (r, d) := hdl.symm
              rw [he] at hge
              rw [digitF, inF, ← Bool.decide_and, decide_eq_false (by simp only at hge; omega)]
          have HD := Aside0.mk hrd
          have ho := HO.out
          rw [hst] at ho
          simp only [Prod.mk.injEq] at ho
          obtain ⟨rfl, rfl⟩ := ho
          clear hst hd hdl hrd
          go_wp2_with fail
          refine (digit_any (r : Int) _ false HD).mono ?_
          rintro e w2 ⟨rfl, rfl⟩
          go_wp2
          go_ret2
          exact ⟨rfl, HB2⟩
      · have hnx : ∀ ty, (Instr.next (.pointer (some ⟨w.heap.size, 0, none⟩)) true ty).run Tryd.prog wr = _ := fun ty => Lib.run_next_end_at wr w.heap.size s pos ty HK.out hp
        have hst := HV.out
        rw [List.drop_eq_nil_of_le (by rw [bs_length]; omega), numL] at hst
        have ho := HO.out
        rw [hst] at ho
        simp only [Prod.mk.injEq] at ho
        obtain ⟨rfl, rfl⟩ := ho
        clear hst
        go_wp2
        go_ret2
        exact ⟨rfl, HB⟩)
theorem number_out (s : ByteArray) (w : World) (hs : s.size ≤ 4611686018427387904) (h : s.size < 1 ∨ 10 < s.size ∨ (1 < s.size ∧ bt8 s 0 = 48)) :
    Calls Tryd.prog 65 #[.string s] w fun e w' => e = .returned (.tuple #[.int .i64 0, .bool false]) ∧ Aside0 (Below w.heap.size w w') := by
  by_cases h1 : s.size = 0
  · have e0 := str_empty s true (decide_eq_true h1)
    go_enter Tryd.func65, Tryd.ntmps65
    go_wp2
    go_ret2
    exact ⟨rfl, ⟨Below.refl _ _⟩⟩
  · have e0 := str_empty s false (decide_eq_false h1)
    by_cases h2 : 10 < s.size
    · have e1 : decide (10 < s.size) = true := decide_eq_true h2
      have e2 : decide ((10 : Int) < (s.size : Int)) = true := decide_eq_true (by omega)
      go_enter Tryd.func65, Tryd.ntmps65
      go_wp2
      go_ret2
      exact ⟨rfl, ⟨Below.refl _ _⟩⟩
    · have h3 : 1 < s.size ∧ bt8 s 0 = 48 := by omega
      have e1 : decide (10 < s.size) = false := decide_eq_false h2
      have e2 : decide ((10 : Int) < (s.size : Int)) = false := decide_eq_false (by omega)
      have e3 : decide (1 < s.size) = true := decide_eq_true h3.1
      have e4 : decide ((1 : Int) < (s.size : Int)) = true := decide_eq_true (by omega)
      have hx0 : 0 < s.size := by omega
      have hsi0 : (s[0]'hx0).toNat = 48 := by rw [bt8_at, h3.2]
      clear h3 h
      go_enter Tryd.func65, Tryd.ntmps65
      go_wp2
      go_ret2
      exact ⟨rfl, ⟨Below.refl _ _⟩⟩
theorem number_any (s : ByteArray) (w : World) (hs : s.size ≤ 4611686018427387904) (v : Nat) (ok : Bool) (hv : Aside0 (numF s = (v, ok))) :
    Calls Tryd.prog 65 #[.string s] w fun e w' => e = .returned (.tuple #[.int .i64 (v : Int), .bool ok]) ∧ Aside0 (Below w.heap.size w w') := by
  by_cases h : s.size < 1 ∨ 10 < s.size ∨ (1 < s.size ∧ bt8 s 0 = 48)
  · have e := hv.out
    rw [numF, if_pos h] at e
    cases e
    exact number_out s w hs h
  · exact number_run s w (by omega) (by omega) (by omega) v ok hv
end Go.Proofs.YtbfhglaaombglaaDoor
end
section
namespace Go.Proofs.YtbfhglaaombglaaDoor
set_option linter.unusedVariables false
set_option linter.unusedSimpArgs false
open Go.RowKit Go.Proofs.YtbfhglaaombglaaDoorW.PrintWords
/-- Whether from a place on there are runes alone. -/
def validF (s : ByteArray) : Nat → Nat → Bool
  | 0, _ => true
  | k + 1, p => if p < s.size then (if (Utf8.decode s p).1 = 65533 ∧ (Utf8.decode s p).2 < 2 then false else validF s k (p + (Utf8.decode s p).2)) else true
def validG (s : ByteArray) : Bool := validF s s.size 0
theorem validF_step (s : ByteArray) (k p : Nat) (h : p < s.size) : validF s (k + 1) p = if (Utf8.decode s p).1 = 65533 ∧ (Utf8.decode s p).2 < 2 then false else validF s k (p + (Utf8.decode s p).2) := by rw [validF, if_pos h]
theorem validF_end (s : ByteArray) (k p : Nat) (h : ¬ p < s.size) : validF s k p = true := by
  cases k with
  | zero => rfl
  | succ k => rw [validF, if_neg h]
set_option maxRecDepth 100000 in
set_option maxHeartbeats 1000000 in
theorem valid_any (s : ByteArray) (w : World) (hs : s.size ≤ 4611686018427387904) (hT : Tabs w) (v : Bool) (hv : Aside0 (validG s = v)) :
    Calls Tryd.prog 68 #[.string s] w fun e w' => e = .returned (.bool v) ∧ Below w.heap.size w w' := by
  have HT := Aside0.mk hT
  clear hT
  go_enter Tryd.func68, Tryd.ntmps68
  go_wp2_with fail
  go_loopw [3] (fun _ wr => ∃ (pos k : Nat), Aside0 (wr.heap[w.heap.size]? = some (.stringIter s pos)) ∧ pos ≤ s.size ∧ Aside0 (validF s k pos = v) ∧ Aside0 (s.size ≤ pos + k) ∧ Aside0 (Below w.heap.size w wr)) (fun _ wr => s.size - wr.iterPos w.heap.size)
  case atStart => exact ⟨0, s.size, ⟨World.iter_heap w s 0⟩, by omega, hv, ⟨by omega⟩, ⟨(Below.refl _ _).alloc (Nat.le_refl _) _⟩⟩
  case round =>
    obtain ⟨pos, k, HK, hpos, HV, HF, HB⟩ := hrel
    by_cases hp : pos < s.size
    · obtain ⟨r, n, hd⟩ : ∃ r n, Utf8.decode s pos = (r, n) := ⟨_, _, rfl⟩
      have hnx : ∀ ty, (Instr.next (.pointer (some ⟨w.heap.size, 0, none⟩)) true ty).run Tryd.prog wr = _ := fun ty => Lib.run_next_any_at wr w.heap.size s pos ty HK.out hp
      have hn1 := dec_pos s pos hp
      have hn2 := dec_le s pos hp
      rw [hd] at hn1 hn2
      simp only [hd] at hnx
      simp only at hn1 hn2
      obtain ⟨k, rfl⟩ : ∃ k', k = k' + 1 := ⟨k - 1, by have := HF.out; omega⟩
      have hst := HV.out
      rw [validF_step s k pos hp, hd] at hst
      simp only at hst
      have HK2 := Aside0.mk (Lib.iterAt_heap wr w.heap.size s pos (pos + n) HK.out)
      have HB2 := Aside0.mk (Lib.below_iterAt HB.out (Nat.le_refl _) s (pos + n))
      have hmeas := Aside0.mk (iter_pos HK.out)
      have hlt : w.heap.size < wr.heap.size := (Array.getElem?_eq_some_iff.1 HK.out).1
      have hlt2 : w.heap.size < (wr.iterAt w.heap.size s (pos + n)).heap.size := by rw [Lib.iterAt_size]; exact hlt
      have HST := Aside0.mk hst
      have HD := Aside0.mk hd
      clear hd hst
      by_cases hr : r = 65533
      · subst hr
        by_cases hn : n < 2
        · have hvf : v = false := by rw [← HST.out, if_pos ⟨rfl, hn⟩]
          subst hvf
          have HG : Aside0 (nextG s (pos : Int) = (0, 0, false)) := ⟨by rw [nextG, if_neg (by omega), Int.toNat_natCast, HD.out, if_pos ⟨rfl, hn⟩]⟩
          go_wp2_with fail
          refine (next_at s pos _ (by omega) (tabs_below HT.out HB2.out) 0 0 false HG).mono ?_
          rintro e w1 ⟨rfl, hB1⟩
          have HB3 := Aside0.mk (HB2.out.trans (hB1.mono HB2.out.size))
          clear hB1
          go_wp2
          go_ret
          exact ⟨rfl, HB3.out⟩
        · have HG : Aside0 (nextG s (pos : Int) = (65533, n, true)) := ⟨by rw [nextG, if_neg (by omega), Int.toNat_natCast, HD.out, if_neg (by simp only; omega)]⟩
          go_wp2_with fail
          refine (next_at s pos _ (by omega) (tabs_below HT.out HB2.out) 65533 n true HG).mono ?_
          rintro e w1 ⟨rfl, hB1⟩
          have HB3 := Aside0.mk (HB2.out.trans (hB1.mono HB2.out.size))
          have HK3 := Aside0.mk (show w1.heap[w.heap.size]? = some (.stringIter s (pos + n)) by rw [hB1.block _ hlt2]; exact HK2.out)
          clear hB1
          go_wp2
          go_roundw
          case rel => exact ⟨pos + n, k, HK3, hn2.1, ⟨by rw [← HST.out, if_neg (by omega)]⟩, ⟨by have := HF.out; omega⟩, HB3⟩
          case measure => rw [iter_pos HK3.out, hmeas.out]; omega
      · have hr2 : ((r : Int) != 65533) = true := by rw [bne_iff_ne]; omega
        have HR := Aside0.mk hr
        clear hr
        go_wp2
        go_roundw
        case rel => exact ⟨pos + n, k, HK2, hn2.1, ⟨by rw [← HST.out, if_neg (fun h => HR.out h.1)]⟩, ⟨by have := HF.out; omega⟩, HB2⟩
        case measure => rw [iter_pos HK2.out, hmeas.out]; omega
    · have hnx : ∀ ty, (Instr.next (.pointer (some ⟨w.heap.size, 0, none⟩)) true ty).run Tryd.prog wr = _ := fun ty => Lib.run_next_end_at wr w.heap.size s pos ty HK.out hp
      have hvt : v = true := by rw [← HV.out]; exact validF_end s k pos hp
      subst hvt
      go_wp2
      go_ret
      exact ⟨rfl, HB.out⟩
end Go.Proofs.YtbfhglaaombglaaDoor
end
section
namespace Go.Proofs.YtbfhglaaombglaaDoor
set_option linter.unusedVariables false
set_option linter.unusedSimpArgs false
open Go.RowKit Go.Proofs.YtbfhglaaombglaaDoorW.PrintWords
/-- The runes from a place on; none: they are not runes alone. -/
def runesF (s : ByteArray) : Nat → Nat → Option (List Nat)
  | 0, _ => some []
  | k + 1, p => if p < s.size then (if (Utf8.decode s p).1 = 65533 ∧ (Utf8.decode s p).2 < 2 then none else (runesF s k (p + (Utf8.decode s p).2)).map ((Utf8.decode s p).1 :: ·)) else some []
def runesG (s : ByteArray) : Option (List Nat) := runesF s s.size 0
theorem runesF_step (s : ByteArray) (k p : Nat) (h : p < s.size) : runesF s (k + 1) p = if (Utf8.decode s p).1 = 65533 ∧ (Utf8.decode s p).2 < 2 then none else (runesF s k (p + (Utf8.decode s p).2)).map ((Utf8.decode s p).1 :: ·) := by rw [runesF, if_pos h]
theorem runesF_end (s : ByteArray) (k p : Nat) (h : ¬ p < s.size) : runesF s k p = some [] := by
  cases k with
  | zero => rfl
  | succ k => rw [runesF, if_neg h]
theorem validF_runes (s : ByteArray) : ∀ k p, validF s k p = (runesF s k p).isSome := by
  intro k
  induction k with
  | zero => intro p; rfl
  | succ k ih =>
    intro p
    rw [validF, runesF]
    split
    · split
      · rfl
      · rw [ih, Option.isSome_map]
    · rfl
theorem validG_runes (s : ByteArray) : validG s = (runesG s).isSome := validF_runes s _ _
theorem runesF_le (s : ByteArray) : ∀ k p l, runesF s k p = some l → l.length ≤ k := by
  intro k
  induction k with
  | zero => intro p l h; simp [runesF] at h; subst h; simp
  | succ k ih =>
    intro p l h
    rw [runesF] at h
    split at h
    · split at h
      · cases h
      · obtain ⟨l', h1, rfl⟩ := Option.map_eq_some_iff.1 h
        have := ih _ _ h1
        simp only [List.length_cons]
        omega
    · cases h; simp
set_option maxRecDepth 100000 in
set_option maxHeartbeats 1000000 in
theorem count_yes (s : ByteArray) (w : World) (hs : s.size ≤ 4611686018427387904) (hT : Tabs w) (l : List Nat) (hv : Aside0 (runesG s = some l)) (c : Nat) (hc : Aside0 (l.length = c)) :
    Calls Tryd.prog 63 #[.string s] w fun e w' => e = .returned (.int .i64 (c : Int)) ∧ Below w.heap.size w w' := by
  have HT := Aside0.mk hT
  have hcs : c ≤ s.size := by rw [← hc.out]; exact runesF_le _ _ _ _ hv.out
  clear hT
  go_enter Tryd.func63, Tryd.ntmps63
  go_wp2_with fail
  refine (valid_any s _ hs HT.out true ⟨by rw [validG_runes, hv.out]; rfl⟩).mono ?_
  rintro e w0 ⟨rfl, hB0⟩
  have HB0 := Aside0.mk hB0
  clear hB0
  go_wp2_with fail
  go_loopw [3] (fun u wr => ∃ (pos k m : Nat) (l' : List Nat), u = .int .i64 (m : Int) ∧ Aside0 (wr.heap[w0.heap.size]? = some (.stringIter s pos)) ∧ pos ≤ s.size ∧ Aside0 (runesF s k pos = some l') ∧ Aside0 (m + l'.length = c) ∧ m ≤ c ∧ Aside0 (s.size ≤ pos + k) ∧ Aside0 (Below w0.heap.size w0 wr)) (fun _ wr => s.size - wr.iterPos w0.heap.size)
  case atStart => exact ⟨0, s.size, 0, l, rfl, ⟨World.iter_heap w0 s 0⟩, by omega, hv, ⟨by rw [Nat.zero_add]; exact hc.out⟩, by omega, ⟨by omega⟩, ⟨(Below.refl _ _).alloc (Nat.le_refl _) _⟩⟩
  case round =>
    obtain ⟨pos, k, m, l', rfl, HK, hpos, HV, HC, hm, HF, HB⟩ := hrel
    by_cases hp : pos < s.size
    · obtain ⟨r, n, hd⟩ : ∃ r n, Utf8.decode s pos = (r, n) := ⟨_, _, rfl⟩
      have hnx : ∀ ty, (Instr.next (.pointer (some ⟨w0.heap.size, 0, none⟩)) true ty).run Tryd.prog wr = _ := fun ty => Lib.run_next_any_at wr w0.heap.size s pos ty HK.out hp
      have hn1 := dec_pos s pos hp
      have hn2 := dec_le s pos hp
      rw [hd] at hn1 hn2
      simp only [hd] at hnx
      simp only at hn1 hn2
      obtain ⟨k, rfl⟩ : ∃ k', k = k' + 1 := ⟨k - 1, by have := HF.out; omega⟩
      have hst := HV.out
      rw [runesF_step s k pos hp, hd] at hst
      simp only at hst
      split at hst
      · cases hst
      · obtain ⟨l2, hl2, rfl⟩ := Option.map_eq_some_iff.1 hst
        have HL2 := Aside0.mk hl2
        have HC2 := Aside0.mk (show m + 1 + l2.length = c by have := HC.out; simp only [List.length_cons] at this; omega)
        have hmc : m + 1 ≤ c := by have := HC2.out; omega
        have HK2 := Aside0.mk (Lib.iterAt_heap wr w0.heap.size s pos (pos + n) HK.out)
        have HB2 := Aside0.mk (Lib.below_iterAt HB.out (Nat.le_refl _) s (pos + n))
        have hmeas := Aside0.mk (iter_pos HK.out)
        clear hd hst hl2
        go_wp2
        go_roundw
        case rel => exact ⟨pos + n, k, m + 1, l2, by go_num, HK2, hn2.1, HL2, HC2, by omega, ⟨by have := HF.out; omega⟩, HB2⟩
        case measure => rw [iter_pos HK2.out, hmeas.out]; omega
    · have hnx : ∀ ty, (Instr.next (.pointer (some ⟨w0.heap.size, 0, none⟩)) true ty).run Tryd.prog wr = _ := fun ty => Lib.run_next_end_at wr w0.heap.size s pos ty HK.out hp
      have hl' : l' = [] := by
        have h := HV.out
        rw [runesF_end s k pos hp] at h
        exact (Option.some.inj h).symm
      have hmm : m = c := by have h := HC.out; rw [hl'] at h; simpa using h
      subst hmm
      go_wp2
      go_ret
      exact ⟨rfl, HB0.out.trans (HB.out.mono HB0.out.size)⟩
theorem count_no (s : ByteArray) (w : World) (hs : s.size ≤ 4611686018427387904) (hT : Tabs w) (hv : Aside0 (runesG s = none)) :
    Calls Tryd.prog 63 #[.string s] w fun e w' => e = .returned (.int .i64 0) ∧ Below w.heap.size w w' := by
  have HT := Aside0.mk hT
  clear hT
  go_enter Tryd.func63, Tryd.ntmps63
  go_wp2_with fail
  refine (valid_any s _ hs HT.out false ⟨by rw [validG_runes, hv.out]; rfl⟩).mono ?_
  rintro e w0 ⟨rfl, hB0⟩
  have HB0 := Aside0.mk hB0
  clear hB0
  go_wp2
  go_ret
  exact ⟨rfl, HB0.out⟩
def countG (s : ByteArray) : Nat := ((runesG s).getD []).length
theorem count_any (s : ByteArray) (w : World) (hs : s.size ≤ 4611686018427387904) (hT : Tabs w) (c : Nat) (hc : Aside0 (countG s = c)) :
    Calls Tryd.prog 63 #[.string s] w fun e w' => e = .returned (.int .i64 (c : Int)) ∧ Below w.heap.size w w' := by
  cases h : runesG s with
  | none =>
    have e : c = 0 := by rw [← hc.out, countG, h]; rfl
    subst e
    exact count_no s w hs hT ⟨h⟩
  | some l => exact count_yes s w hs hT l ⟨h⟩ c ⟨by rw [← hc.out, countG, h]; rfl⟩
end Go.Proofs.YtbfhglaaombglaaDoor
end
section
namespace Go.Proofs.YtbfhglaaombglaaDoor
set_option linter.unusedVariables false
set_option linter.unusedSimpArgs false
open Go.RowKit Go.Proofs.YtbfhglaaombglaaDoorW.PrintWords
/-- A word of the language's. -/
def keyF (s : ByteArray) : Bool := s.toList == [115, 99, 104, 101, 109, 97] || (s.toList == [109, 101, 115, 115, 97, 103, 101] || (s.toList == [101, 110, 117, 109] || (s.toList == [99, 97, 108, 108] || (s.toList == [114, 101, 116, 117, 114, 110, 115] || (s.toList == [114, 101, 115, 101, 114, 118, 101, 100] || (s.toList == [111, 112, 116, 105, 111, 110, 97, 108] || (s.toList == [114, 101, 112, 101, 97, 116, 101, 100] || (s.toList == [105, 110, 116, 51, 50] || (s.toList == [105, 110, 116, 54, 52] || (s.toList == [98, 111, 111, 108] || (s.toList == [116, 101, 120, 116] || (s.toList == [98, 121, 116, 101, 115]))))))))))))
set_option maxRecDepth 100000 in
set_option maxHeartbeats 4000000 in
theorem key_any (s : ByteArray) (w : World) (v : Bool) (hv : Aside0 (keyF s = v)) : Calls Tryd.prog 64 #[.string s] w fun e w' => e = .returned (.bool v) ∧ w = w' := by
  have hv' := hv.out
  rw [keyF] at hv'
  clear hv
  cases k0 : s.toList == [115, 99, 104, 101, 109, 97]
  case true =>
    rw [k0, Bool.true_or] at hv'
    subst hv'
    go_enter Tryd.func64, Tryd.ntmps64
    go_wp2
    go_ret
    exact ⟨rfl, rfl⟩
  rw [k0, Bool.false_or] at hv'
  cases k1 : s.toList == [109, 101, 115, 115, 97, 103, 101]
  case true =>
    rw [k1, Bool.true_or] at hv'
    subst hv'
    go_enter Tryd.func64, Tryd.ntmps64
    go_wp2
    go_ret
    exact ⟨rfl, rfl⟩
  rw [k1, Bool.false_or] at hv'
  cases k2 : s.toList == [101, 110, 117, 109]
  case true =>
    rw [k2, Bool.true_or] at hv'
    subst hv'
    go_enter Tryd.func64, Tryd.ntmps64
    go_wp2
    go_ret
    exact ⟨rfl, rfl⟩
  rw [k2, Bool.false_or] at hv'
  cases k3 : s.toList == [99, 97, 108, 108]
  case true =>
    rw [k3, Bool.true_or] at hv'
    subst hv'
    go_enter Tryd.func64, Tryd.ntmps64
    go_wp2
    go_ret
    exact ⟨rfl, rfl⟩
  rw [k3, Bool.false_or] at hv'
  cases k4 : s.toList == [114, 101, 116, 117, 114, 110, 115]
  case true =>
    rw [k4, Bool.true_or] at hv'
    subst hv'
    go_enter Tryd.func64, Tryd.ntmps64
    go_wp2
    go_ret
    exact ⟨rfl, rfl⟩
  rw [k4, Bool.false_or] at hv'
  cases k5 : s.toList == [114, 101, 115, 101, 114, 118, 101, 100]
  case true =>
    rw [k5, Bool.true_or] at hv'
    subst hv'
    go_enter Tryd.func64, Tryd.ntmps64
    go_wp2
    go_ret
    exact ⟨rfl, rfl⟩
  rw [k5, Bool.false_or] at hv'
  cases k6 : s.toList == [111, 112, 116, 105, 111, 110, 97, 108]
  case true =>
    rw [k6, Bool.true_or] at hv'
    subst hv'
    go_enter Tryd.func64, Tryd.ntmps64
    go_wp2
    go_ret
    exact ⟨rfl, rfl⟩
  rw [k6, Bool.false_or] at hv'
  cases k7 : s.toList == [114, 101, 112, 101, 97, 116, 101, 100]
  case true =>
    rw [k7, Bool.true_or] at hv'
    subst hv'
    go_enter Tryd.func64, Tryd.ntmps64
    go_wp2
    go_ret
    exact ⟨rfl, rfl⟩
  rw [k7, Bool.false_or] at hv'
  cases k8 : s.toList == [105, 110, 116, 51, 50]
  case true =>
    rw [k8, Bool.true_or] at hv'
    subst hv'
    go_enter Tryd.func64, Tryd.ntmps64
    go_wp2
    go_ret
    exact ⟨rfl, rfl⟩
  rw [k8, Bool.false_or] at hv'
  cases k9 : s.toList == [105, 110, 116, 54, 52]
  case true =>
    rw [k9, Bool.true_or] at hv'
    subst hv'
    go_enter Tryd.func64, Tryd.ntmps64
    go_wp2
    go_ret
    exact ⟨rfl, rfl⟩
  rw [k9, Bool.false_or] at hv'
  cases k10 : s.toList == [98, 111, 111, 108]
  case true =>
    rw [k10, Bool.true_or] at hv'
    subst hv'
    go_enter Tryd.func64, Tryd.ntmps64
    go_wp2
    go_ret
    exact ⟨rfl, rfl⟩
  rw [k10, Bool.false_or] at hv'
  cases k11 : s.toList == [116, 101, 120, 116]
  case true =>
    rw [k11, Bool.true_or] at hv'
    subst hv'
    go_enter Tryd.func64, Tryd.ntmps64
    go_wp2
    go_ret
    exact ⟨rfl, rfl⟩
  rw [k11, Bool.false_or] at hv'
  cases k12 : s.toList == [98, 121, 116, 101, 115]
  case true =>
    rw [k12] at hv'
    subst hv'
    go_enter Tryd.func64, Tryd.ntmps64
    go_wp2
    go_ret
    exact ⟨rfl, rfl⟩
  rw [k12] at hv'
  subst hv'
  go_enter Tryd.func64, Tryd.ntmps64
  go_wp2
  go_ret
  exact ⟨rfl, rfl⟩
end Go.Proofs.YtbfhglaaombglaaDoor
end
section
namespace Go.Proofs.YtbfhglaaombglaaDoor
set_option linter.unusedVariables false
set_option linter.unusedSimpArgs false
open Go.RowKit Go.Proofs.YtbfhglaaombglaaDoorW.PrintWords
/-- The first a letter; each other one a letter or a digit. -/
def chk : Bool → List Nat → Bool
  | _, [] => true
  | true, r :: l => letterF (r : Int) && chk false l
  | false, r :: l => (letterF (r : Int) || digitF (r : Int)) && chk false l
def nameG (s : ByteArray) : Bool := match runesG s with
  | none => false
  | some l => decide (1 ≤ l.length) && (decide (l.length ≤ 20) && (!keyF s && chk true l))
set_option maxRecDepth 100000 in
set_option maxHeartbeats 1000000 in
theorem name_run (s : ByteArray) (w : World) (hs : s.size ≤ 4611686018427387904) (hT : Tabs w) (l : List Nat) (hl : Aside0 (runesG s = some l)) (h1 : 1 ≤ l.length) (h2 : l.length ≤ 20) (hk : Aside0 (keyF s = false)) (v : Bool) (hv : Aside0 (chk true l = v)) :
    Calls Tryd.prog 52 #[.string s] w fun e w' => e = .returned (.bool v) ∧ Below w.heap.size w w' := by
  have HT := Aside0.mk hT
  obtain ⟨c, hc⟩ : ∃ c, l.length = c := ⟨_, rfl⟩
  rw [hc] at h1 h2
  have HC := Aside0.mk (show countG s = c by rw [countG, hl.out]; exact hc)
  clear hT hc
  go_enter Tryd.func52, Tryd.ntmps52
  go_wp2_with fail
  refine (count_any s _ hs HT.out c HC).mono ?_
  rintro e w0 ⟨rfl, hB0⟩
  have HB0 := Aside0.mk hB0
  have d1 : decide ((c : Int) < 1) = false := decide_eq_false (by omega)
  have d2 : decide (20 < (c : Int)) = false := decide_eq_false (by omega)
  have d3 : decide (c < 1) = false := decide_eq_false (by omega)
  have d4 : decide (20 < c) = false := decide_eq_false (by omega)
  clear hB0
  go_wp2_with fail
  refine (key_any s _ false hk).mono ?_
  rintro e w1 ⟨rfl, rfl⟩
  go_wp2_with fail
  go_loopw [4] (fun _ wr => ∃ (pos k : Nat) (l' : List Nat), Aside0 (wr.heap[w0.heap.size]? = some (.stringIter s pos)) ∧ pos ≤ s.size ∧ Aside0 (runesF s k pos = some l') ∧ Aside0 (chk (pos == 0) l' = v) ∧ Aside0 (s.size ≤ pos + k) ∧ Aside0 (Below w0.heap.size w0 wr)) (fun _ wr => s.size - wr.iterPos w0.heap.size)
  case atStart => exact ⟨0, s.size, l, ⟨World.iter_heap w0 s 0⟩, by omega, hl, hv, ⟨by omega⟩, ⟨(Below.refl _ _).alloc (Nat.le_refl _) _⟩⟩
  case round =>
    obtain ⟨pos, k, l', HK, hpos, HL, HV, HF, HB⟩ := hrel
    by_cases hp : pos < s.size
    · obtain ⟨r, n, hd⟩ : ∃ r n, Utf8.decode s pos = (r, n) := ⟨_, _, rfl⟩
      have hnx : ∀ ty, (Instr.next (.pointer (some ⟨w0.heap.size, 0, none⟩)) true ty).run Tryd.prog wr = _ := fun ty => Lib.run_next_any_at wr w0.heap.size s pos ty HK.out hp
      have hn1 := dec_pos s pos hp
      have hn2 := dec_le s pos hp
      rw [hd] at hn1 hn2
      simp only [hd] at hnx
      simp only at hn1 hn2
      obtain ⟨k, rfl⟩ : ∃ k', k = k' + 1 := ⟨k - 1, by have := HF.out; omega⟩
      have hst := HL.out
      rw [runesF_step s k pos hp, hd] at hst
      simp only at hst
      split at hst
      · cases hst
      · obtain ⟨l2, hl2, rfl⟩ := Option.map_eq_some_iff.1 hst
        have HL2 := Aside0.mk hl2
        have HK2 := Aside0.mk (Lib.iterAt_heap wr w0.heap.size s pos (pos + n) HK.out)
        have HB2 := Aside0.mk (Lib.below_iterAt HB.out (Nat.le_refl _) s (pos + n))
        have hmeas := Aside0.mk (iter_pos HK.out)
        have HP := Aside0.mk (show ((pos + n == 0) : Bool) = false by rw [beq_eq_false_iff_ne]; omega)
        obtain ⟨c1, H1⟩ : ∃ b, Aside0 (letterF (r : Int) = b) := ⟨_, ⟨rfl⟩⟩
        obtain ⟨c2, H2⟩ : ∃ b, Aside0 (digitF (r : Int) = b) := ⟨_, ⟨rfl⟩⟩
        clear hd hst hl2
        go_wp2_with fail
        refine (letter_any (r : Int) _ c1 H1).mono ?_
        rintro e w2 ⟨rfl, rfl⟩
        cases c1 with
        | true =>
          have HV2 := Aside0.mk (show chk false l2 = v by
            have h := HV.out
            cases hp0 : (pos == 0) with
            | true => rw [hp0, chk, H1.out, Bool.true_and] at h; exact h
            | false => rw [hp0, chk, H1.out, Bool.true_or, Bool.true_and] at h; exact h)
          go_wp2
          go_roundw
          case rel => exact ⟨pos + n, k, l2, HK2, hn2.1, HL2, ⟨by rw [HP.out]; exact HV2.out⟩, ⟨by have := HF.out; omega⟩, HB2⟩
          case measure => rw [iter_pos HK2.out, hmeas.out]; omega
        | false =>
          by_cases hp0 : pos = 0
          · have hvf : v = false := by
              have h := HV.out
              rw [hp0] at h
              rw [← h]
              show (letterF (r : Int) && chk false l2) = false
              rw [H1.out]
              rfl
            have hz : ((pos : Int) == 0) = true := by rw [beq_iff_eq]; omega
            have HP0 := Aside0.mk hp0
            subst hvf
            clear hp0
            go_wp2
            go_ret
            exact ⟨rfl, HB0.out.trans (HB2.out.mono HB0.out.size)⟩
          · have hz : ((pos : Int) == 0) = false := by rw [beq_eq_false_iff_ne]; omega
            have hz2 := Aside0.mk (show ((pos == 0) : Bool) = false by rw [beq_eq_false_iff_ne]; exact hp0)
            go_wp2_with fail
            refine (digit_any (r : Int) _ c2 H2).mono ?_
            rintro e w3 ⟨rfl, rfl⟩
            cases c2 with
            | true =>
              have HV2 := Aside0.mk (show chk false l2 = v by
                have h := HV.out
                rw [hz2.out, chk, H1.out, H2.out, Bool.or_true, Bool.true_and] at h; exact h)
              go_wp2
              go_roundw
              case rel => exact ⟨pos + n, k, l2, HK2, hn2.1, HL2, ⟨by rw [HP.out]; exact HV2.out⟩, ⟨by have := HF.out; omega⟩, HB2⟩
              case measure => rw [iter_pos HK2.out, hmeas.out]; omega
            | false =>
              have hvf : v = false := by
                have h := HV.out
                rw [hz2.out, chk, H1.out, H2.out] at h
                rw [← h]
                rfl
              subst hvf
              go_wp2
              go_ret
              exact ⟨rfl, HB0.out.trans (HB2.out.mono HB0.out.size)⟩
    · have hnx : ∀ ty, (Instr.next (.pointer (some ⟨w0.heap.size, 0, none⟩)) true ty).run Tryd.prog wr = _ := fun ty => Lib.run_next_end_at wr w0.heap.size s pos ty HK.out hp
      have hvt : v = true := by
        have h := HL.out
        rw [runesF_end s k pos hp] at h
        have h2 := HV.out
        rw [← (Option.some.inj h)] at h2
        rw [← h2]
        cases (pos == 0) <;> rfl
      subst hvt
      go_wp2
      go_ret
      exact ⟨rfl, HB0.out.trans (HB.out.mono HB0.out.size)⟩
theorem name_count (s : ByteArray) (w : World) (hs : s.size ≤ 4611686018427387904) (hT : Tabs w) (c : Nat) (hc : Aside0 (countG s = c)) (h : c < 1 ∨ 20 < c) :
    Calls Tryd.prog 52 #[.string s] w fun e w' => e = .returned (.bool false) ∧ Below w.heap.size w w' := by
  have HT := Aside0.mk hT
  clear hT
  have hcs : c ≤ s.size := by
    rw [← hc.out, countG]
    cases h2 : runesG s with
    | none => simp
    | some l => exact runesF_le _ _ _ _ h2
  go_enter Tryd.func52, Tryd.ntmps52
  go_wp2_with fail
  refine (count_any s _ hs HT.out c hc).mono ?_
  rintro e w0 ⟨rfl, hB0⟩
  have HB0 := Aside0.mk hB0
  clear hB0
  by_cases h1 : c < 1
  · clear h
    go_wp2
    go_ret
    exact ⟨rfl, HB0.out⟩
  · have h2 : 20 < c := by omega
    clear h
    go_wp2
    go_ret
    exact ⟨rfl, HB0.out⟩
theorem name_key (s : ByteArray) (w : World) (hs : s.size ≤ 4611686018427387904) (hT : Tabs w) (c : Nat) (hc : Aside0 (countG s = c)) (h1 : 1 ≤ c) (h2 : c ≤ 20) (hk : Aside0 (keyF s = true)) :
    Calls Tryd.prog 52 #[.string s] w fun e w' => e = .returned (.bool false) ∧ Below w.heap.size w w' := by
  have HT := Aside0.mk hT
  clear hT
  go_enter Tryd.func52, Tryd.ntmps52
  go_wp2_with fail
  refine (count_any s _ hs HT.out c hc).mono ?_
  rintro e w0 ⟨rfl, hB0⟩
  have HB0 := Aside0.mk hB0
  clear hB0
  go_wp2_with fail
  refine (key_any s _ true hk).mono ?_
  rintro e w1 ⟨rfl, rfl⟩
  go_wp2
  go_ret
  exact ⟨rfl, HB0.out⟩
theorem name_any (s : ByteArray) (w : World) (hs : s.size ≤ 4611686018427387904) (hT : Tabs w) (v : Bool) (hv : Aside0 (nameG s = v)) :
    Calls Tryd.prog 52 #[.string s] w fun e w' => e = .returned (.bool v) ∧ Below w.heap.size w w' := by
  have h := hv.out
  rw [nameG] at h
  cases hl : runesG s with
  | none =>
    rw [hl] at h
    subst h
    exact name_count s w hs hT 0 ⟨by rw [countG, hl]; rfl⟩ (.inl (by omega))
  | some l =>
    rw [hl] at h
    simp only at h
    have hc : countG s = l.length := by rw [countG, hl]; rfl
    by_cases h1 : 1 ≤ l.length
    · by_cases h2 : l.length ≤ 20
      · rw [decide_eq_true h1, decide_eq_true h2, Bool.true_and, Bool.true_and] at h
        cases hk : keyF s with
        | true =>
          rw [hk] at h
          subst h
          exact name_key s w hs hT _ ⟨hc⟩ h1 h2 ⟨hk⟩
        | false =>
          rw [hk] at h
          exact name_run s w hs hT l ⟨hl⟩ h1 h2 ⟨hk⟩ v ⟨by rw [← h]; rfl⟩
      · rw [decide_eq_false h2, Bool.false_and, Bool.and_false] at h
        subst h
        exact name_count s w hs hT _ ⟨hc⟩ (.inr (by omega))
    · rw [decide_eq_false h1, Bool.false_and] at h
      subst h
      exact name_count s w hs hT _ ⟨hc⟩ (.inl (by omega))
end Go.Proofs.YtbfhglaaombglaaDoor
end
