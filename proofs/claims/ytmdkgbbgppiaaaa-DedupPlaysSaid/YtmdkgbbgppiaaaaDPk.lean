/- A packet's value; the cache, as it lies in memory. -/
import Derived.Test.YtmdkgbbgppiaaaaDKey
import Derived.Test.YtmdkgbbgppiaaaaWInvWords
import Derived.Laws.ResultCell
import Derived.StillTailTactics
import Derived.Carry
import Derived.Deep.RegionHeldLaw
namespace Go.Proofs.Ytmdkgbbgppiaaaa
set_option linter.unusedVariables false
set_option linter.unusedSimpArgs false
open Go.RowKit Go.ChangeMaps Go.Proofs.YtmdkgbbgppiaaaaW.PrintWords

/-- A packet. -/
structure Pk where mk ::
  (kind fr to_ id ver : Int)
  (meth : ByteArray)
  (err : Int)
  (body : ByteArray)
def pk0 : Pk := ⟨0, 0, 0, 0, 0, ByteArray.empty, 0, ByteArray.empty⟩
/-- A packet's value. -/
def pkV (p : Pk) : Value := .agg #[.int .i64 p.kind, .int .i64 p.fr, .int .i64 p.to_, .int .i64 p.id, .int .i64 p.ver, .string p.meth, .int .i64 p.err, .string p.body]
def pkC (p : Pk) : Array Value := #[.int .i64 p.kind, .int .i64 p.fr, .int .i64 p.to_, .int .i64 p.id, .int .i64 p.ver, .string p.meth, .int .i64 p.err, .string p.body]

/-- A packet stored into a block of its own. -/
def put8 (w : World) (g : Nat) (v0 v1 v2 v3 v4 v5 v6 v7 : Value) : World :=
  (((((((w.setCell ⟨g, 0, none⟩ v0).setCell ⟨g, 1, none⟩ v1).setCell ⟨g, 2, none⟩ v2).setCell ⟨g, 3, none⟩ v3).setCell ⟨g, 4, none⟩ v4).setCell ⟨g, 5, none⟩ v5).setCell ⟨g, 6, none⟩ v6).setCell ⟨g, 7, none⟩ v7
theorem put8_blk {w : World} {g : Nat} {t : TypeId} {a0 a1 a2 a3 a4 a5 a6 a7 : Value} (h : w.heap[g]? = some (.cells #[a0, a1, a2, a3, a4, a5, a6, a7] t (0, 0))) (v0 v1 v2 v3 v4 v5 v6 v7 : Value) :
    (put8 w g v0 v1 v2 v3 v4 v5 v6 v7).heap[g]? = some (.cells #[v0, v1, v2, v3, v4, v5, v6, v7] t (0, 0)) := by
  have := blk_set (blk_set (blk_set (blk_set (blk_set (blk_set (blk_set (blk_set h 0 v0) 1 v1) 2 v2) 3 v3) 4 v4) 5 v5) 6 v6) 7 v7
  simp only [List.setIfInBounds_toArray, List.set_cons_zero, List.set_cons_succ] at this
  exact this
theorem put8_below {B : Nat} {a w : World} (h : Below B a w) {g : Nat} (hg : B ≤ g) (v0 v1 v2 v3 v4 v5 v6 v7 : Value) : Below B a (put8 w g v0 v1 v2 v3 v4 v5 v6 v7) :=
  (((((((h.setCell (p := ⟨g, 0, none⟩) hg v0).setCell (p := ⟨g, 1, none⟩) hg v1).setCell (p := ⟨g, 2, none⟩) hg v2).setCell (p := ⟨g, 3, none⟩) hg v3).setCell (p := ⟨g, 4, none⟩) hg v4).setCell (p := ⟨g, 5, none⟩) hg v5).setCell (p := ⟨g, 6, none⟩) hg v6).setCell (p := ⟨g, 7, none⟩) hg v7

/-- A request's key, as an element of the row. -/
abbrev dK : Kd (Int × Int) := Kd.pair (Kd.int .i64) (Kd.int .i64)
/-- The cache at block b: its size, the row of what is kept, the two maps. -/
structure CacheAt (w : World) (B b : Nat) (size : Nat) (ov : Value) (m1 m2 : Nat) (ord : List (Int × Int)) (L1 : List ((Int × Int) × Pk × Nat)) (c1 : Nat) (L2 : List (Int × Int × Nat)) (c2 : Nat) : Prop where
  blk : w.heap[b]? = some (.cells #[.int .i64 (size : Int), ov, .map (some m1), .map (some m2)] 51 (0, 0))
  row : dK.Q 53 w B (fun _ => True) ov ord
  r1 : MapRel kvA pkV okA w m1 L1 c1
  r2 : MapRel kvI kvI In64 w m2 L2 c2
  hb : B ≤ b
  h1 : B ≤ m1
  h2 : B ≤ m2
  ne : m1 ≠ m2
section
variable {w w1 : World} {B b size : Nat} {ov : Value} {m1 m2 : Nat} {ord : List (Int × Int)} {L1 : List ((Int × Int) × Pk × Nat)} {c1 : Nat} {L2 : List (Int × Int × Nat)} {c2 : Nat}
theorem CacheAt.below (h : CacheAt w B b size ov m1 m2 ord L1 c1 L2 c2) (hb : Below w.heap.size w w1) : CacheAt w1 B b size ov m1 m2 ord L1 c1 L2 c2 where
  blk := by rw [hb.block _ (blk_lt h.blk)]; exact h.blk
  row := Kd.Q_below h.row hb
  r1 := h.r1.of_heap (hb.block _ h.r1.lt)
  r2 := h.r2.of_heap (hb.block _ h.r2.lt)
  hb := h.hb
  h1 := h.h1
  h2 := h.h2
  ne := h.ne
end
/-- What is known of a request. -/
def lookF (L1 : List ((Int × Int) × Pk × Nat)) (L2 : List (Int × Int × Nat)) (f i : Int) : Pk × Nat :=
  match getL L1 (f, i) with
  | some p => (p, 2)
  | none => match getL L2 f with
    | some n => if i ≤ n then (pk0, 3) else (pk0, 1)
    | none => (pk0, 1)
theorem zeroPk : ∀ W, (zeroValue 28).run Try.prog W = .ok (pkV pk0) W := by
  intro W
  obtain ⟨i, hi, hz, _⟩ := info_parts (show (Try.prog.info? 28).map (fun i => (i.zero, i.size, i.bytes)) = some (some (pkV pk0), 8, 80) by kernel_rfl)
  simp [zeroValue, typeInfo, hi, hz]
theorem zeroInt : ∀ W, (zeroValue 3).run Try.prog W = .ok (kvI 0) W := by
  intro W
  obtain ⟨i, hi, hz, _⟩ := info_parts (show (Try.prog.info? 3).map (fun i => (i.zero, i.size, i.bytes)) = some (some (kvI 0), 1, 8) by kernel_rfl)
  simp [zeroValue, typeInfo, hi, hz]
theorem made_at (w : World) (v : Int) (s : Nat) (hv : v = (s : Int)) :
    CacheAt (((w.alloc (.map #[] 0)).alloc (.map #[] 0)).alloc (.cells #[.int .i64 v, .slice none 0 0, .map (some w.heap.size), .map (some (w.heap.size + 1))] 51)) w.heap.size (w.heap.size + 1 + 1) s (.slice none 0 0) w.heap.size (w.heap.size + 1) [] [] 0 [] 0 where
  blk := by
    subst hv
    have h := heap_alloc_new ((w.alloc (.map #[] 0)).alloc (.map #[] 0)) (.cells #[.int .i64 (s : Int), .slice none 0 0, .map (some w.heap.size), .map (some (w.heap.size + 1))] 51)
    rwa [show ((w.alloc (.map #[] 0)).alloc (.map #[] 0)).heap.size = w.heap.size + 1 + 1 by simp] at h
  row := Kd.Q_nil _ _ _ _ _
  r1 := by
    refine ⟨?_, List.Pairwise.nil, by simp, by simp, List.Pairwise.nil⟩
    have h := heap_alloc_new w (.map #[] 0)
    have hb1 : Below (w.heap.size + 1) (w.alloc (.map #[] 0)) ((w.alloc (.map #[] 0)).alloc (.map #[] 0)) := (Below.refl _ _).alloc (by simp) _
    have hb2 := hb1.alloc (o := .cells #[.int .i64 v, .slice none 0 0, .map (some w.heap.size), .map (some (w.heap.size + 1))] 51) (by simp)
    rw [hb2.block _ (by omega)]
    exact h
  r2 := by
    refine ⟨?_, List.Pairwise.nil, by simp, by simp, List.Pairwise.nil⟩
    have h := heap_alloc_new (w.alloc (.map #[] 0)) (.map #[] 0)
    rw [show (w.alloc (.map #[] 0)).heap.size = w.heap.size + 1 by simp] at h
    have hb1 : Below (w.heap.size + 1 + 1) ((w.alloc (.map #[] 0)).alloc (.map #[] 0)) (((w.alloc (.map #[] 0)).alloc (.map #[] 0)).alloc (.cells #[.int .i64 v, .slice none 0 0, .map (some w.heap.size), .map (some (w.heap.size + 1))] 51)) := (Below.refl _ _).alloc (by simp) _
    rw [hb1.block _ (by omega)]
    exact h
  hb := by omega
  h1 := Nat.le_refl _
  h2 := by omega
  ne := by omega
set_option maxRecDepth 100000 in
theorem make_any (size : Int) (s : Nat) (w : World) (hs : In64 size) (hs2 : max 1 (min size 8) = (s : Int)) :
    Calls Try.prog 8 #[.int .i64 size] w fun e w' => ∃ b ov m1 m2, e = .returned (.pointer (some ⟨b, 0, none⟩)) ∧ Aside0 (CacheAt w' w.heap.size b s ov m1 m2 [] [] 0 [] 0) ∧ Aside0 (Below w.heap.size w w') := by
  have hmm := @run_makeMap Try.prog
  go_enter Try.func8, Try.ntmps8
  go_wp2
  all_goals
    go_ret
    refine ⟨_, rfl, ⟨_, _, _, ⟨made_at w _ s (by omega)⟩⟩, ⟨(((Below.refl _ _).alloc (Nat.le_refl _) _).alloc (by simp) _).alloc (by simp; omega) _⟩⟩
end Go.Proofs.Ytmdkgbbgppiaaaa
