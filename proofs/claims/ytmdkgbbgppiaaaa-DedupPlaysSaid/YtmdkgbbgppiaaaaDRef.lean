/- The reference's cache, as it lies in memory; Make, Last, Look. -/
import Derived.Test.YtmdkgbbgppiaaaaDCch
import Derived.Test.YtmdkgbbgppiaaaaWQPut
namespace Go.Proofs.Ytmdkgbbgppiaaaa
set_option linter.unusedVariables false
set_option linter.unusedSimpArgs false
open Go.RowKit Go.ChangeMaps Go.Proofs.YtmdkgbbgppiaaaaW.PrintWords

/-- A kept reply's cells. -/
def kC (e : (Int × Int) × Pk) : List Value := [.int .i64 e.1.1, .int .i64 e.1.2, .int .i64 e.2.kind, .int .i64 e.2.fr, .int .i64 e.2.to_, .int .i64 e.2.id, .int .i64 e.2.ver, .string e.2.meth, .int .i64 e.2.err, .string e.2.body]
theorem kC_one (e : (Int × Int) × Pk) : ∀ u ∈ kC e, u.oneCell' = true := by
  intro u hu
  simp only [kC, List.mem_cons, List.not_mem_nil, or_false] at hu
  rcases hu with rfl | rfl | rfl | rfl | rfl | rfl | rfl | rfl | rfl | rfl <;> rfl
def kK : Kd ((Int × Int) × Pk) where
  sz := 10
  E := []
  K := fun _ x cs => cs = kC x
  M := fun _ _ _ x cs => cs = kC x
  K_len := by rintro w x cs rfl; rfl
  K_one := by rintro w x cs rfl; exact kC_one x
  K_below := fun _ h => h
  K_of_M := fun h => h
  M_mono := fun _ h => h
  M_bound := fun h => h
  M_move := fun _ h => h
  M_lower := fun _ h => h
/-- The last number of somebody. -/
def lastM (M : List ((Int × Int) × Pk)) (f : Int) : Option Int := (M.find? (fun e => decide (e.1.1 = f))).map (·.1.2)
/-- What is known, of what is kept and the last number. -/
def lookR (r : Option Pk) (l : Option Int) (i : Int) : Pk × Nat :=
  match r with
  | some p => (p, 2)
  | none => match l with
    | some n => if i ≤ n then (pk0, 3) else (pk0, 1)
    | none => (pk0, 1)
theorem lookS_eq (R : List ((Int × Int) × Pk)) (last : Int → Option Int) (f i : Int) : lookS R last f i = lookR (repR R (f, i)) (last f) i := rfl
/-- The reference's cache at block g: its size, the row of what is kept, the row of the last numbers. -/
structure RefAt (w : World) (B g size : Nat) (vL vM : Value) (R M : List ((Int × Int) × Pk)) : Prop where
  blk : w.heap[g]? = some (.cells #[.int .i64 (size : Int), vL, vM] 45 (0, 0))
  rowL : kK.Q 56 w B (fun _ => True) vL R
  rowM : kK.Q 56 w B (fun _ => True) vM M
  hb : B ≤ g
  ne : ∀ k, vL.ownBlock = some k → vM.ownBlock ≠ some k
theorem RefAt.below {w w1 : World} {B g size : Nat} {vL vM : Value} {R M : List ((Int × Int) × Pk)} (h : RefAt w B g size vL vM R M) (hb : Below w.heap.size w w1) : RefAt w1 B g size vL vM R M where
  blk := by rw [hb.block _ (blk_lt h.blk)]; exact h.blk
  rowL := Kd.Q_below h.rowL hb
  rowM := Kd.Q_below h.rowM hb
  hb := h.hb
  ne := h.ne
/-- An element's cells. -/
theorem kK_cells {w : World} {B g o n c : Nat} {R : List ((Int × Int) × Pk)} (h : kK.Q 56 w B (fun _ => True) (.slice (some ⟨g, o, none⟩) n c) R) {i : Nat} (hi : i < n) {x : (Int × Int) × Pk} (hx : R[i]? = some x) :
    ∀ j u, (kC x)[j]? = some u → w.cell? ⟨g, o + i * 10 + j, none⟩ = some u := by
  intro j u hu
  obtain ⟨c, _, hM, hcc, _⟩ := Kd.Q_elem h ((0, 0), pk0) (i : Int) (by omega) (by omega)
  rw [Int.toNat_natCast, List.getD_eq_getElem?_getD, hx, Option.getD_some] at hM
  have hM' : c = kC x := hM
  subst hM'
  have h9 := hcc j u hu
  rw [Int.toNat_natCast] at h9
  exact h9
theorem last_at {M : List ((Int × Int) × Pk)} {i : Nat} {x : (Int × Int) × Pk} (hx : M[i]? = some x) (f : Int) : lastM (M.drop i) f = if x.1.1 = f then some x.1.2 else lastM (M.drop (i + 1)) f := by
  obtain ⟨hl, he⟩ := List.getElem?_eq_some_iff.1 hx
  rw [List.drop_eq_getElem_cons hl, he, lastM, List.find?_cons]
  by_cases h : x.1.1 = f
  · rw [decide_eq_true h, if_pos h]; rfl
  · rw [decide_eq_false h, if_neg h]; rfl
theorem rep_at {R : List ((Int × Int) × Pk)} {i : Nat} {x : (Int × Int) × Pk} (hx : R[i]? = some x) (k : Int × Int) : repR (R.drop i) k = if x.1 = k then some x.2 else repR (R.drop (i + 1)) k := by
  obtain ⟨hl, he⟩ := List.getElem?_eq_some_iff.1 hx
  rw [List.drop_eq_getElem_cons hl, he, repR, List.find?_cons]
  by_cases h : x.1 = k
  · rw [decide_eq_true h, if_pos h]; rfl
  · rw [decide_eq_false h, if_neg h]; rfl

set_option maxRecDepth 100000 in
theorem last_r (w : World) (B g size : Nat) (vL vM : Value) (R M : List ((Int × Int) × Pk)) (C : RefAt w B g size vL vM R M) (hM : M.length ≤ 100) (f : Int) (r : Option Int) (hr : Aside0 (lastM M f = r)) :
    Calls Try.prog 18 #[.pointer (some ⟨g, 0, none⟩), .int .i64 f] w fun e w' => e = .returned (.tuple #[.int .i64 (r.getD 0), .bool r.isSome]) ∧ w' = w := by
  have HC := Aside0.mk C
  obtain ⟨A, c, hv, hl⟩ := Kd.Q_slice C.rowM
  subst hv
  have cm : w.cell? ⟨g, 2, none⟩ = some (.slice A M.length c) := blk_cell C.blk 2
  clear C
  go_enter Try.func18, Try.ntmps18
  go_wp2_with fail
  go_loopw [6] (fun u wr => ∃ i : Nat, u = .int .i64 (i : Int) ∧ i ≤ M.length ∧ Aside0 (lastM (M.drop i) f = r) ∧ wr = w) (fun u _ => M.length - (intOf u).toNat)
  case atStart => exact ⟨0, rfl, Nat.zero_le _, ⟨hr.out⟩, rfl⟩
  case round =>
    obtain ⟨i, rfl, hi, HX, rfl⟩ := hrel
    by_cases hlt : i < M.length
    · obtain ⟨gm, o, cap, hv, _⟩ := Kd.Q_form HC.out.rowM (by omega)
      injection hv with hv _ _
      subst hv
      obtain ⟨x, hx⟩ : ∃ x, M[i]? = some x := ⟨_, List.getElem?_eq_getElem hlt⟩
      have hcs := kK_cells HC.out.rowM hlt hx
      have h0 : wr.cell? ⟨gm, o + i * 10 + 0, none⟩ = some (.int .i64 x.1.1) := hcs 0 _ rfl
      have h1 : wr.cell? ⟨gm, o + i * 10 + 1, none⟩ = some (.int .i64 x.1.2) := hcs 1 _ rfl
      rw [Nat.add_zero] at h0
      have HX2 := HX.out
      rw [last_at hx] at HX2
      obtain ⟨⟨xf, xi⟩, xp⟩ := x
      simp only at h0 h1 HX2
      have d1 : decide ((i : Int) < (M.length : Int)) = true := decide_eq_true (by omega)
      have d2 : decide (i < M.length) = true := decide_eq_true hlt
      clear hcs hx
      by_cases hxf : xf = f
      · rw [if_pos hxf] at HX2
        have e1 : (xf == f) = true := beq_iff_eq.2 hxf
        have HXE := Aside0.mk HX2
        clear HX2 hxf
        go_wp2_with fail
        go_ret2
        rw [← HXE.out]
        exact ⟨rfl, rfl⟩
      · rw [if_neg hxf] at HX2
        have e1 : (xf == f) = false := beq_eq_false_iff_ne.2 hxf
        have HXE := Aside0.mk HX2
        clear HX2 hxf
        go_wp2_with fail
        go_roundw
        case rel => exact ⟨i + 1, by go_num, by omega, HXE, by trivial⟩
        case measure => simp [intOf]; omega
    · have d1 : decide ((i : Int) < (M.length : Int)) = false := decide_eq_false (by omega)
      have d2 : decide (i < M.length) = false := decide_eq_false hlt
      have hin : i = M.length := by omega
      have HXE : Aside0 (r = none) := ⟨by rw [← HX.out, hin, List.drop_length]; rfl⟩
      clear hin
      go_wp2_with fail
      go_ret2
      rw [HXE.out]
      exact ⟨rfl, rfl⟩
end Go.Proofs.Ytmdkgbbgppiaaaa
