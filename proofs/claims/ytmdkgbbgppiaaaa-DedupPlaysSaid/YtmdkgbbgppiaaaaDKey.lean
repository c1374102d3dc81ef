/- The keys of the cache's maps. -/
import Derived.Test.YtmdkgbbgppiaaaaDMap
import Derived.Test.YtmdkgbbgppiaaaaWWords
import Derived.DeepKeys4
import Derived.SizedLaws
namespace Go.Proofs.Ytmdkgbbgppiaaaa
set_option linter.unusedVariables false
set_option linter.unusedSimpArgs false
open Go.RowKit Go.ChangeMaps Go.Proofs.YtmdkgbbgppiaaaaW.PrintWords
set_option linter.unusedSectionVars false

theorem laidOut : laidOutB Try.prog = true := by kernel_rfl
theorem rowK : 53 < Try.prog.types.size := of_decide_eq_true (by kernel_rfl)
theorem lawK : WideMaps.KeyLaw Try.prog 53 := deep_law_laid laidOut (m := 2) (by omega) rowK (by kernel_rfl) (by rw [Try.underlying53])
/-- A request's key. -/
def kvA (x : Int × Int) : Value := .agg #[.int .i64 x.1, .int .i64 x.2]
def kvI (x : Int) : Value := .int .i64 x
def In64 (x : Int) : Prop := -9223372036854775808 ≤ x ∧ x ≤ 9223372036854775807
def okA (x : Int × Int) : Prop := In64 x.1 ∧ In64 x.2
theorem wf_of {x : Int} (h : In64 x) : (Lit.int .i64 x).wf = true := by
  have h1 := wrap64_wf x
  have h2 : wrap64 x = x := by
    have := h.1
    have := h.2
    unfold wrap64
    omega
  rwa [h2] at h1
theorem keyA : KeyOk Try.prog 53 kvA okA where
  law := Maps.Keyed.of_law lawK
  lit := fun x hx => by
    have hs : Try.prog.types.size = 73 := by kernel_rfl
    have k3 : Try.prog.cellsOf 3 = 1 := by kernel_rfl
    have k53 : Try.prog.cellsOf 53 = 2 := by kernel_rfl
    have hk : Try.prog.keyType 53 = true := by kernel_rfl
    have w1 := wf_of hx.1
    have w2 := wf_of hx.2
    refine ⟨.string (keyBytes [.int .i64 x.1, .int .i64 x.2]), ?_⟩
    have hf : (Value.agg #[.int .i64 x.1, .int .i64 x.2]).formed Try.prog 53 = true := by
      unfold Value.formed
      rw [Try.underlying53, k53]
      rfl
    have a1 (n : Nat) : Try.prog.keyLits (n + 1) 3 [.int .i64 x.1] = some [.int .i64 x.1] := by
      unfold Program.keyLits
      rw [Try.underlying3]
      simp only [w1, and_self, if_true]
    have a2 (n : Nat) : Try.prog.keyLits (n + 1) 3 [.int .i64 x.2] = some [.int .i64 x.2] := by
      unfold Program.keyLits
      rw [Try.underlying3]
      simp only [w2, and_self, if_true]
    have a3 (n : Nat) : Try.prog.keyLits (n + 2) 53 [.int .i64 x.1, .int .i64 x.2] = some [.int .i64 x.1, .int .i64 x.2] := by
      rw [Program.keyLits.eq_def]
      simp only [Try.underlying53, k53, k3, List.length_cons, List.length_nil]
      rw [if_pos (by simp)]
      simp only [List.mapM_cons, List.mapM_nil, k3, List.drop_zero, List.take_succ_cons, List.take_zero, List.drop_succ_cons, a1, a2]
      rfl
    rw [keyOf, kvA, Try.underlying53, hs]
    simp only [hk, hf, Bool.and_self, if_true]
    rw [show (Value.agg #[.int .i64 x.1, .int .i64 x.2]).cells.toList = [.int .i64 x.1, .int .i64 x.2] from rfl, a3 72]
    rfl
  inj := fun x y h => by
    obtain ⟨a, b⟩ := x
    obtain ⟨c, d⟩ := y
    simp [kvA] at h
    simp [h]
theorem keyI : KeyOk Try.prog 3 kvI In64 where
  law := Maps.int_keyed Try.underlying3
  lit := fun x hx => ⟨_, Maps.keyOf_int_mk Try.underlying3 (wf_of hx)⟩
  inj := fun x y h => by simpa [kvI] using h
end Go.Proofs.Ytmdkgbbgppiaaaa
