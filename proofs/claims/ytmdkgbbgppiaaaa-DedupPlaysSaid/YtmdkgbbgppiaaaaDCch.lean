/- The cache, as lists alone: Make, Look, Add, Last, Len. -/
import Derived.Test.YtmdkgbbgppiaaaaDAdd
namespace Go.Proofs.Ytmdkgbbgppiaaaa
set_option linter.unusedVariables false
set_option linter.unusedSimpArgs false
open Go.RowKit Go.ChangeMaps Go.Proofs.YtmdkgbbgppiaaaaW.PrintWords

/-- What is kept for a request. -/
def repR (R : List ((Int × Int) × Pk)) (k : Int × Int) : Option Pk := (R.find? (fun e => decide (e.1 = k))).map (·.2)
/-- What is known of a request. -/
def lookS (R : List ((Int × Int) × Pk)) (last : Int → Option Int) (f i : Int) : Pk × Nat :=
  match repR R (f, i) with
  | some p => (p, 2)
  | none => match last f with
    | some n => if i ≤ n then (pk0, 3) else (pk0, 1)
    | none => (pk0, 1)
/-- What is kept behind an Add. -/
def addR (size : Nat) (R : List ((Int × Int) × Pk)) (e : (Int × Int) × Pk) : List ((Int × Int) × Pk) := if size < R.length + 1 then (R ++ [e]).drop 1 else R ++ [e]
def setF (last : Int → Option Int) (f i : Int) : Int → Option Int := fun f' => if f' = f then some i else last f'
def un (e : (Int × Int) × Pk × Nat) : (Int × Int) × Pk := (e.1, e.2.1)
/-- The cache. -/
def Cch (w : World) (B b size : Nat) (R : List ((Int × Int) × Pk)) (last : Int → Option Int) : Prop :=
  ∃ ov m1 m2 L1 c1 L2 c2, CacheAt w B b size ov m1 m2 (L1.map (·.1)) L1 c1 L2 c2 ∧ R = L1.map un ∧ ∀ f, getL L2 f = last f
theorem repR_of (L1 : List ((Int × Int) × Pk × Nat)) (k : Int × Int) : repR (L1.map un) k = getL L1 k := by
  rw [repR, getL]
  induction L1 with
  | nil => rfl
  | cons e l ih =>
    rw [List.map_cons, List.find?_cons, List.find?_cons]
    by_cases h : e.1 = k
    · have h2 : (un e).1 = k := h
      rw [decide_eq_true h, decide_eq_true h2]
      rfl
    · have h2 : ¬ (un e).1 = k := h
      rw [decide_eq_false h, decide_eq_false h2]
      exact ih
theorem lookS_of (L1 : List ((Int × Int) × Pk × Nat)) (L2 : List (Int × Int × Nat)) (last : Int → Option Int) (h : ∀ f, getL L2 f = last f) (f i : Int) : lookS (L1.map un) last f i = lookF L1 L2 f i := by
  unfold lookS lookF
  rw [repR_of, h f]
  cases getL L1 (f, i) with
  | some p => rfl
  | none => cases last f with
    | some n => rfl
    | none => rfl
theorem addR_of (size : Nat) (L1 : List ((Int × Int) × Pk × Nat)) (e : (Int × Int) × Pk × Nat) : (addL size L1 e).map un = addR size (L1.map un) (un e) := by
  unfold addL addR
  rw [List.length_map]
  split
  · rw [List.map_drop, List.map_append]; rfl
  · rw [List.map_append]; rfl
theorem Cch.below {w w1 : World} {B b size : Nat} {R : List ((Int × Int) × Pk)} {last : Int → Option Int} (h : Cch w B b size R last) (hb : Below w.heap.size w w1) : Cch w1 B b size R last := by
  obtain ⟨ov, m1, m2, L1, c1, L2, c2, C, h1, h2⟩ := h
  exact ⟨ov, m1, m2, L1, c1, L2, c2, C.below hb, h1, h2⟩
theorem make_c (size : Int) (s : Nat) (w : World) (hs : In64 size) (hs2 : max 1 (min size 8) = (s : Int)) :
    Calls Try.prog 8 #[.int .i64 size] w fun e w' => ∃ b, e = .returned (.pointer (some ⟨b, 0, none⟩)) ∧ Aside0 (Cch w' w.heap.size b s [] (fun _ => none)) ∧ Aside0 (Below w.heap.size w w') := by
  refine (make_any size s w hs hs2).mono ?_
  rintro e w' ⟨b, ov, m1, m2, rfl, hC, hB⟩
  exact ⟨b, rfl, ⟨⟨ov, m1, m2, [], 0, [], 0, hC.out, rfl, fun _ => rfl⟩⟩, hB⟩
theorem look_c (w : World) (B b size : Nat) (R : List ((Int × Int) × Pk)) (last : Int → Option Int) (C : Aside0 (Cch w B b size R last)) (f i : Int) (hf : In64 f) (hi : In64 i) (p : Pk) (k : Nat) (hp : Aside0 (lookS R last f i = (p, k))) :
    Calls Try.prog 10 #[.pointer (some ⟨b, 0, none⟩), .int .i64 f, .int .i64 i] w fun e w' => e = .returned (.tuple #[pkV p, .int .i64 (k : Int)]) ∧ Aside0 (Below w.heap.size w w') := by
  obtain ⟨ov, m1, m2, L1, c1, L2, c2, C', h1, h2⟩ := C.out
  subst h1
  exact (look_any w B b size ov m1 m2 _ L1 c1 L2 c2 C' f i hf hi p k ⟨by rw [← lookS_of L1 L2 last h2]; exact hp.out⟩).mono fun _ _ ⟨h1, h2⟩ => ⟨h1, ⟨h2⟩⟩
theorem last_c (w : World) (B b size : Nat) (R : List ((Int × Int) × Pk)) (last : Int → Option Int) (C : Aside0 (Cch w B b size R last)) (f : Int) (hf : In64 f) (r : Option Int) (hr : Aside0 (last f = r)) :
    Calls Try.prog 14 #[.pointer (some ⟨b, 0, none⟩), .int .i64 f] w fun e w' => e = .returned (.tuple #[.int .i64 (r.getD 0), .bool r.isSome]) ∧ w = w' := by
  obtain ⟨ov, m1, m2, L1, c1, L2, c2, C', h1, h2⟩ := C.out
  exact last_any w B b size ov m1 m2 _ L1 c1 L2 c2 C' f hf r ⟨by rw [h2]; exact hr.out⟩
theorem len_c (w : World) (B b size : Nat) (R : List ((Int × Int) × Pk)) (last : Int → Option Int) (C : Aside0 (Cch w B b size R last)) (n : Nat) (hn : Aside0 (R.length = n)) :
    Calls Try.prog 13 #[.pointer (some ⟨b, 0, none⟩)] w fun e w' => e = .returned (.int .i64 (n : Int)) ∧ w = w' := by
  obtain ⟨ov, m1, m2, L1, c1, L2, c2, C', h1, h2⟩ := C.out
  have h3 : L1.length = n := by rw [← hn.out, h1, List.length_map]
  subst h3
  exact len_any w B b size ov m1 m2 _ L1 c1 L2 c2 C'
theorem addOld_c (w : World) (B b size : Nat) (R : List ((Int × Int) × Pk)) (last : Int → Option Int) (C : Aside0 (Cch w B b size R last)) (f i : Int) (hf : In64 f) (hi : In64 i) (p q : Pk) (k : Nat) (hp : Aside0 (lookS R last f i = (q, k))) (hk : k ≠ 1) :
    Calls Try.prog 9 #[.pointer (some ⟨b, 0, none⟩), .int .i64 f, .int .i64 i, pkV p] w fun e w' => e = .returned (.int .i64 20) ∧ Aside0 (Below w.heap.size w w') := by
  obtain ⟨ov, m1, m2, L1, c1, L2, c2, C', h1, h2⟩ := C.out
  subst h1
  exact (add_old w B b size ov m1 m2 _ L1 c1 L2 c2 C' f i hf hi p q k ⟨by rw [← lookS_of L1 L2 last h2]; exact hp.out⟩ hk).mono fun _ _ ⟨h1, h2⟩ => ⟨h1, ⟨h2⟩⟩
theorem addNew_c (w : World) (B b size : Nat) (R : List ((Int × Int) × Pk)) (last : Int → Option Int) (C : Aside0 (Cch w B b size R last)) (f i : Int) (hf : In64 f) (hi : In64 i) (p : Pk) (hp : Aside0 (lookS R last f i = (pk0, 1))) (hBw : B ≤ w.heap.size) (hlen : R.length ≤ 100) (hs1 : 1 ≤ size) :
    Calls Try.prog 9 #[.pointer (some ⟨b, 0, none⟩), .int .i64 f, .int .i64 i, pkV p] w fun e w' => e = .returned (.int .i64 0) ∧ Aside0 (Cch w' B b size (addR size R ((f, i), p)) (setF last f i)) ∧ Aside0 (Below B w w') := by
  obtain ⟨ov, m1, m2, L1, c1, L2, c2, C', h1, h2⟩ := C.out
  subst h1
  rw [List.length_map] at hlen
  refine (add_new w B b size ov m1 m2 L1 c1 L2 c2 C' f i hf hi p ⟨by rw [← lookS_of L1 L2 last h2]; exact hp.out⟩ hBw hlen hs1).mono ?_
  rintro e w' ⟨rfl, ⟨ov', c1', L2', c2', C9, hg⟩, hB⟩
  refine ⟨rfl, ⟨⟨ov', m1, m2, _, c1', L2', c2', C9, ?_, fun f' => ?_⟩⟩, ⟨hB⟩⟩
  · rw [addR_of]; rfl
  · rw [hg f', setF, h2]
end Go.Proofs.Ytmdkgbbgppiaaaa
