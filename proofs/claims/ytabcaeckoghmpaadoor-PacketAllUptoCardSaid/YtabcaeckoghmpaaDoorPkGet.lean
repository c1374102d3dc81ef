/- packet.Get. -/
import Derived.Test.YtabcaeckoghmpaaDoorPkPut
import Derived.Laws.ResultCell
import Derived.StillTailTactics
namespace Go.Proofs.YtabcaeckoghmpaaDoor
set_option linter.unusedVariables false
set_option linter.unusedSimpArgs false
open Go.RowKit Go.Proofs.YtabcaeckoghmpaaDoorW.PrintWords

theorem strOfNums_inj (xs ys : List Int) (hx : ∀ x ∈ xs, 0 ≤ x ∧ x ≤ 255) (hy : ∀ x ∈ ys, 0 ≤ x ∧ x ≤ 255) (h : strOfNums xs = strOfNums ys) : xs = ys := by
  have h1 : xs.map (fun n => UInt8.ofNat n.toNat) = ys.map (fun n => UInt8.ofNat n.toNat) := by
    have := congrArg (fun b : ByteArray => b.data.toList) h
    simpa [strOfNums] using this
  clear h
  induction xs generalizing ys with
  | nil => cases ys with
    | nil => rfl
    | cons y ys => simp at h1
  | cons x xs ih => cases ys with
    | nil => simp at h1
    | cons y ys =>
      simp only [List.map_cons, List.cons.injEq] at h1
      have a := hx x (List.mem_cons_self ..)
      have b := hy y (List.mem_cons_self ..)
      have c : x = y := by
        have := congrArg UInt8.toNat h1.1
        simp only [UInt8.toNat_ofNat'] at this
        omega
      rw [c, ih ys (fun z hz => hx z (List.mem_cons_of_mem _ hz)) (fun z hz => hy z (List.mem_cons_of_mem _ hz)) h1.2]
theorem toList_inj {a b : ByteArray} (h : a.toList = b.toList) : a = b := by
  rw [ByteArray.toList_eq, ByteArray.toList_eq] at h
  exact ByteArray.ext (Array.toList_inj.mp h)

/-- A packet's value. -/
def pkV (p : Pk) : Value := .agg #[.int .i64 p.kind, .int .i64 p.fr, .int .i64 p.to_, .int .i64 p.id, .int .i64 p.ver, .string p.meth, .int .i64 p.err, .string p.body]

set_option maxRecDepth 100000 in
set_option maxHeartbeats 1000000 in
theorem get_short (A : Option Addr) (n c : Nat) (bs : List Int) (w : World) (hn : n = bs.length) (hr : ReadsInt w .u8 A n bs) (hc : n ≤ c) (hs : bs.length < 14) :
    Calls Tryd.prog 12 #[.slice A n c] w fun e w' => e = .returned (.tuple #[pkV pk0, .int .i64 2]) ∧ Below w.heap.size w w' := by
  have hm := hr.2.1
  subst hn
  have hb1 : decide ((bs.length : Int) < 14) = true := decide_eq_true (by omega)
  have hb2 : decide (bs.length < 14) = true := decide_eq_true hs
  go_enter Tryd.func12, Tryd.ntmps12
  go_wp2_with fail
  refine bodyPost_ret (v := .tuple #[pkV pk0, .int .i64 2]) ?_ rfl ?_
  · rw [results_cell_tmp rfl]
    go_simp
    rfl
  · exact ⟨rfl, (Below.refl _ _).alloc (Nat.le_refl _) _⟩

/-- A packet stored into a block of its own. -/
def put8 (w : World) (g : Nat) (v0 v1 v2 v3 v4 v5 v6 v7 : Value) : World :=
  (((((((w.setCell ⟨g, 0, none⟩ v0).setCell ⟨g, 1, none⟩ v1).setCell ⟨g, 2, none⟩ v2).setCell ⟨g, 3, none⟩ v3).setCell ⟨g, 4, none⟩ v4).setCell ⟨g, 5, none⟩ v5).setCell ⟨g, 6, none⟩ v6).setCell ⟨g, 7, none⟩ v7
theorem put8_blk {w : World} {g : Nat} {t : TypeId} {a0 a1 a2 a3 a4 a5 a6 a7 : Value} (h : w.heap[g]? = some (.cells #[a0, a1, a2, a3, a4, a5, a6, a7] t (0, 0))) (v0 v1 v2 v3 v4 v5 v6 v7 : Value) :
    (put8 w g v0 v1 v2 v3 v4 v5 v6 v7).heap[g]? = some (.cells #[v0, v1, v2, v3, v4, v5, v6, v7] t (0, 0)) := by
  have := blk_set (blk_set (blk_set (blk_set (blk_set (blk_set (blk_set (blk_set h 0 v0) 1 v1) 2 v2) 3 v3) 4 v4) 5 v5) 6 v6) 7 v7
  simp only [List.setIfInBounds_toArray, List.set_cons_zero, List.set_cons_succ] at this
  exact this
theorem put8_below {B : Nat} {a w : World} (h : Below B a w) {g : Nat} (hg : B ≤ g) (v0 v1 v2 v3 v4 v5 v6 v7 : Value) : Below B a (put8 w g v0 v1 v2 v3 v4 v5 v6 v7) :=
  (((((((h.setCell (p := ⟨g, 0, none⟩) hg v0).setCell (p := ⟨g, 1, none⟩) hg v1).setCell (p := ⟨g, 2, none⟩) hg v2).setCell (p := ⟨g, 3, none⟩) hg v3).setCell (p := ⟨g, 4, none⟩) hg v4).setCell (p := ⟨g, 5, none⟩) hg v5).setCell (p := ⟨g, 6, none⟩) hg v6).setCell (p := ⟨g, 7, none⟩) hg v7
/-- What stands of a number when i of its bytes are read, the lowest first. -/
def sumN (f : Nat → Nat) : Nat → Nat
  | 0 => 0
  | i + 1 => sumN f i + f i * 2 ^ (8 * i)
theorem sumN_lt (f : Nat → Nat) (n : Nat) (h : ∀ i < n, f i < 256) : sumN f n < 2 ^ (8 * n) := by
  induction n with
  | zero => simp [sumN]
  | succ n ih =>
    have h1 := ih (fun i hi => h i (by omega))
    have h2 : f n * 2 ^ (8 * n) ≤ 255 * 2 ^ (8 * n) := Nat.mul_le_mul_right _ (by have := h n (by omega); omega)
    have h3 : 2 ^ (8 * (n + 1)) = 2 ^ (8 * n) * 256 := by rw [Nat.mul_add, Nat.pow_add]
    rw [sumN, h3]
    omega
theorem or_shift8 (p y i : Nat) (hp : p < 2 ^ (8 * i)) (hy : y < 256) (hi : i < 4) :
    Go.bits .or .i64 (p : Int) (IntKind.i64.wrap ((y : Int) * 2 ^ (8 * i))) = ((p + y * 2 ^ (8 * i) : Nat) : Int) := by
  obtain ⟨q, hq⟩ : ∃ q : Nat, q = 2 ^ (8 * i) := ⟨_, rfl⟩
  have hq' : (2 : Int) ^ (8 * i) = q := by rw [hq]; simp
  have hb : q ≤ 2 ^ 24 := by rw [hq]; exact Nat.pow_le_pow_right (by omega) (by omega)
  have h3 := Nat.two_pow_add_eq_or_of_lt (i := 8 * i) (b := p) hp y
  rw [hq', ← hq]
  rw [← hq] at h3 hp
  have hc : (y : Int) * (q : Int) = ((y * q : Nat) : Int) := by simp
  have hm : y * q ≤ 255 * 2 ^ 24 := Nat.mul_le_mul (by omega) hb
  rw [hc, wrap_small _ (by omega) (by omega), (bits_nat .i64 63 (by decide) (fun n h0 h1 => wrap_small _ (by omega) (by omega)) p (y * q) (by omega) (by omega)).2]
  rw [Nat.mul_comm q y] at h3
  rw [Nat.or_comm, ← h3, Nat.add_comm]
theorem le4_length (v : Nat) : (le4 v).length = 4 := rfl
set_option maxRecDepth 100000 in
set_option maxHeartbeats 3000000 in
theorem get_long (A : Option Addr) (n c : Nat) (bs : List Int) (w : World) (hn : n = bs.length) (hr : ReadsInt w .u8 A n bs) (hc : n ≤ c) (hs : 14 ≤ bs.length) (hl : bs.length ≤ 140737488351232) (hw : ∀ x ∈ bs, 0 ≤ x ∧ x ≤ 255) (hT : Tabs w) (p : Pk) (er : Nat) (hp : Aside0 (getB bs = (p, er))) :
    Calls Tryd.prog 12 #[.slice A n c] w fun e w' => e = .returned (.tuple #[pkV p, .int .i64 (er : Int)]) ∧ Below w.heap.size w w' := by
  have HT := Aside0.mk hT
  have HW := Aside0.mk hw
  clear hT hw
  have hm := hr.2.1
  subst hn
  have hb1 : decide ((bs.length : Int) < 14) = false := decide_eq_false (by omega)
  have hb2 : decide (bs.length < 14) = false := decide_eq_false (by omega)
  obtain ⟨i0, hi, _, hsz, _⟩ := info_parts info5
  obtain ⟨A1, hd1, hd2⟩ := drop_int (P := Tryd.prog) (k := .u8) 24 5 Tryd.underlying24 hi hsz A c bs 4 (by omega) hc
  obtain ⟨ht1, ht2⟩ := take_int (P := Tryd.prog) (k := .u8) 24 5 Tryd.underlying24 hi hsz A c bs 4 (by omega) hc
  have hcut1 := fun W => hd1 W 4 rfl
  have hcut2 := fun W => ht1 W 4 rfl
  have hrx := hd2 w hr
  have hrt := ht2 w hr
  clear hd1 hd2 ht1 ht2 hi hsz
  obtain ⟨X, hX⟩ : ∃ X, bs.drop 4 = X := ⟨_, rfl⟩
  obtain ⟨S4, hS4⟩ : ∃ S, bs.take 4 = S := ⟨_, rfl⟩
  obtain ⟨xl, hxl⟩ : ∃ n, bs.length - 4 = n := ⟨_, rfl⟩
  have hXl : X.length = xl := by rw [← hX, List.length_drop, hxl]
  rw [hX, hxl] at hrx
  rw [hS4] at hrt
  simp only [hxl] at hcut1
  obtain ⟨c4, hc4⟩ : ∃ d, c - 4 = d := ⟨_, rfl⟩
  simp only [hc4] at hcut1
  have HXW := Aside0.mk (show ∀ x ∈ X, 0 ≤ x ∧ x ≤ 255 from fun x hx => HW.out x (List.mem_of_mem_drop (hX ▸ hx)))
  have HSW := Aside0.mk (show ∀ x ∈ S4, 0 ≤ x ∧ x ≤ 255 from fun x hx => HW.out x (List.mem_of_mem_take (hS4 ▸ hx)))
  obtain ⟨q, hq⟩ : ∃ q, crcF 0 X = q := ⟨_, rfl⟩
  have hql : q < 4294967296 := by rw [← hq]; exact crcF_lt _ _
  obtain ⟨M, hM⟩ : ∃ M, le4 q = M := ⟨_, rfl⟩
  have hmz : M.length = 4 := by rw [← hM]; rfl
  have HMW := Aside0.mk (show ∀ x ∈ M, 0 ≤ x ∧ x ≤ 255 from fun x hx => le4_bytes q x (hM ▸ hx))
  have HP : Aside0 ((if M ≠ S4 then (pk0, 16) else getX X) = (p, er)) := ⟨by have h := hp.out; rw [getB, if_neg (by omega), hX, hq, hM, hS4] at h; exact h⟩
  obtain ⟨s1, hs1⟩ : ∃ s1, strOfNums M = s1 := ⟨_, rfl⟩
  obtain ⟨s2, hs2⟩ : ∃ s2, strOfNums S4 = s2 := ⟨_, rfl⟩
  obtain ⟨D, hD⟩ : ∃ D, (!decide (M = S4)) = D := ⟨_, rfl⟩
  have hcmp : (s1.toList == s2.toList) = !D := by
    rw [← hD, Bool.not_not]
    by_cases h : M = S4
    · rw [← hs1, ← hs2, h]
      simp
    · rw [decide_eq_false h, beq_eq_false_iff_ne]
      intro h5
      refine h (strOfNums_inj _ _ HMW.out HSW.out ?_)
      rw [hs1, hs2]
      exact toList_inj h5
  have hcmp2 : (s1.toList != s2.toList) = D := by rw [bne, hcmp, Bool.not_not]
  have HS1 := Aside0.mk hs1; have HS2 := Aside0.mk hs2; have HDD := Aside0.mk hD; have HQ := Aside0.mk hq; have HM := Aside0.mk hM; have HMZ := Aside0.mk hmz
  have HRX := Aside0.mk hrx; have HRT := Aside0.mk hrt; have HXL := Aside0.mk hXl
  have HBK := Aside0.mk (heap_alloc_new w (.cells #[.int .i64 0, .int .i64 0, .int .i64 0, .int .i64 0, .int .i64 0, .string ByteArray.empty, .int .i64 0, .string ByteArray.empty] 23))
  have HB0 : Aside0 (Below w.heap.size w (w.alloc (.cells #[.int .i64 0, .int .i64 0, .int .i64 0, .int .i64 0, .int .i64 0, .string ByteArray.empty, .int .i64 0, .string ByteArray.empty] 23))) := ⟨(Below.refl _ _).alloc (Nat.le_refl _) _⟩
  clear hs1 hs2 hD hq hM hmz hrx hrt hXl hX hS4 hp hr
  go_enter Tryd.func12, Tryd.ntmps12
  go_wp2_with fail
  change Code.wp _ _ _ _ (w.alloc (.cells #[.int .i64 0, .int .i64 0, .int .i64 0, .int .i64 0, .int .i64 0, .string ByteArray.empty, .int .i64 0, .string ByteArray.empty] 23))
  obtain ⟨w0, hw0⟩ : ∃ w0, w.alloc (.cells #[.int .i64 0, .int .i64 0, .int .i64 0, .int .i64 0, .int .i64 0, .string ByteArray.empty, .int .i64 0, .string ByteArray.empty] 23) = w0 := ⟨_, rfl⟩
  rw [hw0] at HBK HB0 ⊢
  clear hw0
  have HRX0 := Aside0.mk (HRX.out.below HB0.out)
  have HRT0 := Aside0.mk (HRT.out.below HB0.out)
  have HCV := Aside0.mk (show ∀ W, Below w0.heap.size w0 W → (convert 24 9 (.slice A 4 c)).run Tryd.prog W = .ok (.string s2) W from fun W hW => by rw [← HS2.out]; exact str_reads (HRT0.out.below hW))
  have hwq : IntKind.i64.wrap (q : Int) = (q : Int) := wrap_small _ (by omega) (by omega)
  have HD0 := Aside0.mk (show Below w0.heap.size w0 w0.drew from (Below.refl _ _).drew)
  have hcv0 := HCV.out _ HD0.out
  go_cut [24] (fun v wc => v = .bool D ∧ Aside0 (Below w0.heap.size w0 wc))
  case first =>
    go_region_held (fun W => (convert 24 9 (.slice A 4 c)).run Tryd.prog W = .ok (.string s2) W) (exact HCV.out _ (Aside0.out (by assumption)))
      (first
        | (go_at_call 21; refine (cof_any A1 xl c4 X _ HXL.out.symm (HRX0.out.below (Aside0.out (by assumption))) HXW.out).mono ?_; rintro e w5 ⟨rfl, rfl⟩; rw [HQ.out])
        | (go_at_call 19; refine (number_rel w0 q _ (by assumption) hql M HM).mono ?_; rintro e w6 ⟨A6, c6, rfl, hR6, hO6, hB6, _⟩; have hcv6 := str_own hO6.out; rw [HS1.out] at hcv6; have hcvn := HCV.out _ hB6.out))
    all_goals
      go_wp2
      go_meet
      case rel => exact ⟨rfl, by assumption⟩
  case rest =>
    obtain ⟨rfl, HBc⟩ := hcut
    have hblk : wc.heap[w.heap.size]? = some (.cells #[.int .i64 0, .int .i64 0, .int .i64 0, .int .i64 0, .int .i64 0, .string ByteArray.empty, .int .i64 0, .string ByteArray.empty] 23) := by rw [HBc.out.block _ (blk_lt HBK.out)]; exact HBK.out
    have HBlk := Aside0.mk hblk
    have HBd := Aside0.mk (HB0.out.trans (HBc.out.mono HB0.out.size))
    have HRXc := Aside0.mk (HRX0.out.below HBc.out)
    have hgs := blk_lt hblk
    clear hblk hcv0 hcmp hcmp2
    have HPO := HP.out
    cases D with
    | true =>
      have hne : M ≠ S4 := by have := HDD.out; simpa using this
      rw [if_pos hne] at HPO
      cases HPO
      have z0 : wc.cell? ⟨w.heap.size, 0, none⟩ = some (.int .i64 0) := blk_cell HBlk.out 0
      have z1 : wc.cell? ⟨w.heap.size, 1, none⟩ = some (.int .i64 0) := blk_cell HBlk.out 1
      have z2 : wc.cell? ⟨w.heap.size, 2, none⟩ = some (.int .i64 0) := blk_cell HBlk.out 2
      have z3 : wc.cell? ⟨w.heap.size, 3, none⟩ = some (.int .i64 0) := blk_cell HBlk.out 3
      have z4 : wc.cell? ⟨w.heap.size, 4, none⟩ = some (.int .i64 0) := blk_cell HBlk.out 4
      have z5 : wc.cell? ⟨w.heap.size, 5, none⟩ = some (.string ByteArray.empty) := blk_cell HBlk.out 5
      have z6 : wc.cell? ⟨w.heap.size, 6, none⟩ = some (.int .i64 0) := blk_cell HBlk.out 6
      have z7 : wc.cell? ⟨w.heap.size, 7, none⟩ = some (.string ByteArray.empty) := blk_cell HBlk.out 7
      have hfz := fun i => blk_frozen HBlk.out i
      go_wp2_with fail
      change bodyPost _ _ _ _ _ (put8 wc w.heap.size (.int .i64 0) (.int .i64 0) (.int .i64 0) (.int .i64 0) (.int .i64 0) (.string ByteArray.empty) (.int .i64 0) (.string ByteArray.empty))
      have hb8 := put8_below HBd.out (Nat.le_refl w.heap.size) (.int .i64 0) (.int .i64 0) (.int .i64 0) (.int .i64 0) (.int .i64 0) (.string ByteArray.empty) (.int .i64 0) (.string ByteArray.empty)
      have hk8 := put8_blk HBlk.out (.int .i64 0) (.int .i64 0) (.int .i64 0) (.int .i64 0) (.int .i64 0) (.string ByteArray.empty) (.int .i64 0) (.string ByteArray.empty)
      obtain ⟨w8, hw8⟩ : ∃ w8, put8 wc w.heap.size (.int .i64 0) (.int .i64 0) (.int .i64 0) (.int .i64 0) (.int .i64 0) (.string ByteArray.empty) (.int .i64 0) (.string ByteArray.empty) = w8 := ⟨_, rfl⟩
      rw [hw8] at hb8 hk8 ⊢
      clear hw8 z0 z1 z2 z3 z4 z5 z6 z7 hfz
      have z0 : w8.cell? ⟨w.heap.size, 0, none⟩ = some (.int .i64 0) := blk_cell hk8 0
      have z1 : w8.cell? ⟨w.heap.size, 1, none⟩ = some (.int .i64 0) := blk_cell hk8 1
      have z2 : w8.cell? ⟨w.heap.size, 2, none⟩ = some (.int .i64 0) := blk_cell hk8 2
      have z3 : w8.cell? ⟨w.heap.size, 3, none⟩ = some (.int .i64 0) := blk_cell hk8 3
      have z4 : w8.cell? ⟨w.heap.size, 4, none⟩ = some (.int .i64 0) := blk_cell hk8 4
      have z5 : w8.cell? ⟨w.heap.size, 5, none⟩ = some (.string ByteArray.empty) := blk_cell hk8 5
      have z6 : w8.cell? ⟨w.heap.size, 6, none⟩ = some (.int .i64 0) := blk_cell hk8 6
      have z7 : w8.cell? ⟨w.heap.size, 7, none⟩ = some (.string ByteArray.empty) := blk_cell hk8 7
      refine bodyPost_ret (v := .tuple #[pkV pk0, .int .i64 16]) ?_ rfl ?_
      · rw [results_cell_tmp rfl]
        go_simp
        rfl
      · exact ⟨rfl, hb8⟩
    | false =>
      obtain ⟨wb, hwb⟩ : ∃ wb, wb = wc := ⟨_, rfl⟩
      subst hwb
      have heq : ¬ M ≠ S4 := by have := HDD.out; simpa using this
      rw [if_neg heq] at HPO
      have a0 := HRXc.out.at_ ((0 : Nat) : Int) (by omega) (by omega)
      have a1 := HRXc.out.at_ ((1 : Nat) : Int) (by omega) (by omega)
      have a2 := HRXc.out.at_ ((2 : Nat) : Int) (by omega) (by omega)
      have a3 := HRXc.out.at_ ((3 : Nat) : Int) (by omega) (by omega)
      have a4 := HRXc.out.at_ ((4 : Nat) : Int) (by omega) (by omega)
      have a5 := HRXc.out.at_ ((5 : Nat) : Int) (by omega) (by omega)
      have a6 := HRXc.out.at_ ((6 : Nat) : Int) (by omega) (by omega)
      have a7 := HRXc.out.at_ ((7 : Nat) : Int) (by omega) (by omega)
      have a8 := HRXc.out.at_ ((8 : Nat) : Int) (by omega) (by omega)
      obtain ⟨ad, rfl, a0⟩ := a0
      obtain ⟨_, e1, a1⟩ := a1; cases e1
      obtain ⟨_, e2, a2⟩ := a2; cases e2
      obtain ⟨_, e3, a3⟩ := a3; cases e3
      obtain ⟨_, e4, a4⟩ := a4; cases e4
      obtain ⟨_, e5, a5⟩ := a5; cases e5
      obtain ⟨_, e6, a6⟩ := a6; cases e6
      obtain ⟨_, e7, a7⟩ := a7; cases e7
      obtain ⟨_, e8, a8⟩ := a8; cases e8
      obtain ⟨y0, hy0⟩ : ∃ y : Nat, rd X ((0 : Nat) : Int) = (y : Int) := ⟨_, (Int.toNat_of_nonneg (rd_byte X HXW.out 0).1).symm⟩
      have l0 := (rd_byte X HXW.out 0).2
      rw [hy0] at a0 l0
      obtain ⟨y1, hy1⟩ : ∃ y : Nat, rd X ((1 : Nat) : Int) = (y : Int) := ⟨_, (Int.toNat_of_nonneg (rd_byte X HXW.out 1).1).symm⟩
      have l1 := (rd_byte X HXW.out 1).2
      rw [hy1] at a1 l1
      obtain ⟨y2, hy2⟩ : ∃ y : Nat, rd X ((2 : Nat) : Int) = (y : Int) := ⟨_, (Int.toNat_of_nonneg (rd_byte X HXW.out 2).1).symm⟩
      have l2 := (rd_byte X HXW.out 2).2
      rw [hy2] at a2 l2
      obtain ⟨y3, hy3⟩ : ∃ y : Nat, rd X ((3 : Nat) : Int) = (y : Int) := ⟨_, (Int.toNat_of_nonneg (rd_byte X HXW.out 3).1).symm⟩
      have l3 := (rd_byte X HXW.out 3).2
      rw [hy3] at a3 l3
      obtain ⟨y4, hy4⟩ : ∃ y : Nat, rd X ((4 : Nat) : Int) = (y : Int) := ⟨_, (Int.toNat_of_nonneg (rd_byte X HXW.out 4).1).symm⟩
      have l4 := (rd_byte X HXW.out 4).2
      rw [hy4] at a4 l4
      obtain ⟨y5, hy5⟩ : ∃ y : Nat, rd X ((5 : Nat) : Int) = (y : Int) := ⟨_, (Int.toNat_of_nonneg (rd_byte X HXW.out 5).1).symm⟩
      have l5 := (rd_byte X HXW.out 5).2
      rw [hy5] at a5 l5
      obtain ⟨y6, hy6⟩ : ∃ y : Nat, rd X ((6 : Nat) : Int) = (y : Int) := ⟨_, (Int.toNat_of_nonneg (rd_byte X HXW.out 6).1).symm⟩
      have l6 := (rd_byte X HXW.out 6).2
      rw [hy6] at a6 l6
      obtain ⟨y7, hy7⟩ : ∃ y : Nat, rd X ((7 : Nat) : Int) = (y : Int) := ⟨_, (Int.toNat_of_nonneg (rd_byte X HXW.out 7).1).symm⟩
      have l7 := (rd_byte X HXW.out 7).2
      rw [hy7] at a7 l7
      obtain ⟨y8, hy8⟩ : ∃ y : Nat, rd X ((8 : Nat) : Int) = (y : Int) := ⟨_, (Int.toNat_of_nonneg (rd_byte X HXW.out 8).1).symm⟩
      have l8 := (rd_byte X HXW.out 8).2
      rw [hy8] at a8 l8
      rw [Int.toNat_natCast] at a0 a1 a2 a3 a4 a5 a6 a7 a8
      have p0 : ad.add 0 = ad := by rw [Addr.add, if_pos rfl]
      rw [p0] at a0
      have p1 : ad.add 1 = ⟨ad.block, ad.off + 1, none⟩ := by rw [Addr.add, if_neg (by omega)]
      rw [p1] at a1
      have p2 : ad.add 2 = ⟨ad.block, ad.off + 2, none⟩ := by rw [Addr.add, if_neg (by omega)]
      rw [p2] at a2
      have p3 : ad.add 3 = ⟨ad.block, ad.off + 3, none⟩ := by rw [Addr.add, if_neg (by omega)]
      rw [p3] at a3
      have p4 : ad.add 4 = ⟨ad.block, ad.off + 4, none⟩ := by rw [Addr.add, if_neg (by omega)]
      rw [p4] at a4
      have p5 : ad.add 5 = ⟨ad.block, ad.off + 5, none⟩ := by rw [Addr.add, if_neg (by omega)]
      rw [p5] at a5
      have p6 : ad.add 6 = ⟨ad.block, ad.off + 6, none⟩ := by rw [Addr.add, if_neg (by omega)]
      rw [p6] at a6
      have p7 : ad.add 7 = ⟨ad.block, ad.off + 7, none⟩ := by rw [Addr.add, if_neg (by omega)]
      rw [p7] at a7
      have p8 : ad.add 8 = ⟨ad.block, ad.off + 8, none⟩ := by rw [Addr.add, if_neg (by omega)]
      rw [p8] at a8
      clear p0 p1 p2 p3 p4 p5 p6 p7 p8
      have HCX := Aside0.mk (fun W (hW : Below wb.heap.size wb W) => (show W.cell? ad = some (.int .u8 (y0 : Int)) ∧ W.cell? ⟨ad.block, ad.off + 1, none⟩ = some (.int .u8 (y1 : Int)) ∧ W.cell? ⟨ad.block, ad.off + 2, none⟩ = some (.int .u8 (y2 : Int)) ∧ W.cell? ⟨ad.block, ad.off + 3, none⟩ = some (.int .u8 (y3 : Int)) ∧ W.cell? ⟨ad.block, ad.off + 4, none⟩ = some (.int .u8 (y4 : Int)) from ⟨pw_cell_below hW a0, pw_cell_below hW a1, pw_cell_below hW a2, pw_cell_below hW a3, pw_cell_below hW a4⟩))
      have HD9 := Aside0.mk (show Below wb.heap.size wb wb.drew from (Below.refl _ _).drew)
      have hcx0 := HCX.out _ HD9.out
      have HA5 := Aside0.mk a5
      have HA6 := Aside0.mk a6
      have HA7 := Aside0.mk a7
      have HA8 := Aside0.mk a8
      have HY := Aside0.mk (And.intro hy0 (And.intro hy1 (And.intro hy2 (And.intro hy3 (And.intro hy4 (And.intro hy5 (And.intro hy6 (And.intro hy7 hy8))))))))
      clear a0 a1 a2 a3 a4 a5 a6 a7 a8 hy0 hy1 hy2 hy3 hy4 hy5 hy6 hy7 hy8 hcut1 hcut2 hwq hb1 hb2
      have hxl10 : 10 ≤ xl := by omega
      have k0 : IntKind.i64.wrap (y0 : Int) = (y0 : Int) := wrap_small _ (by omega) (by omega)
      have k1 : IntKind.i64.wrap (y1 : Int) = (y1 : Int) := wrap_small _ (by omega) (by omega)
      have k2 : IntKind.i64.wrap (y2 : Int) = (y2 : Int) := wrap_small _ (by omega) (by omega)
      have k3 : IntKind.i64.wrap (y3 : Int) = (y3 : Int) := wrap_small _ (by omega) (by omega)
      have k4 : IntKind.i64.wrap (y4 : Int) = (y4 : Int) := wrap_small _ (by omega) (by omega)
      have g0 : (0 : Int) < (xl : Int) := by omega
      have f0 : 0 < xl := by omega
      have g1 : (1 : Int) < (xl : Int) := by omega
      have f1 : 1 < xl := by omega
      have g2 : (2 : Int) < (xl : Int) := by omega
      have f2 : 2 < xl := by omega
      have g3 : (3 : Int) < (xl : Int) := by omega
      have f3 : 3 < xl := by omega
      have g4 : (4 : Int) < (xl : Int) := by omega
      have f4 : 4 < xl := by omega
      go_wp2_with fail
      go_cut [5] (fun v wd => v = .pointer (some ⟨wb.heap.size, 0, none⟩) ∧ Aside0 (Below wb.heap.size wb wd) ∧ Aside0 (wd.heap[wb.heap.size]? = some (.cells #[.int .i64 (y0 : Int), .int .i64 (y1 : Int), .int .i64 (y2 : Int), .int .i64 0, .int .i64 (y3 : Int), .string ByteArray.empty, .int .i64 (y4 : Int), .string ByteArray.empty] 23)))
      case first =>
        have HDA := Aside0.mk (show Below wb.heap.size wb (wb.alloc (.cells #[.int .i64 0, .int .i64 0, .int .i64 0, .int .i64 0, .int .i64 0, .string ByteArray.empty, .int .i64 0, .string ByteArray.empty] 23)).drew from ((Below.refl _ _).alloc (Nat.le_refl _) _).drew)
        go_region_held (fun W => W.cell? ad = some (.int .u8 (y0 : Int)) ∧ W.cell? ⟨ad.block, ad.off + 1, none⟩ = some (.int .u8 (y1 : Int)) ∧ W.cell? ⟨ad.block, ad.off + 2, none⟩ = some (.int .u8 (y2 : Int)) ∧ W.cell? ⟨ad.block, ad.off + 3, none⟩ = some (.int .u8 (y3 : Int)) ∧ W.cell? ⟨ad.block, ad.off + 4, none⟩ = some (.int .u8 (y4 : Int))) (first | exact HCX.out _ (Aside0.out (by assumption)) | exact HCX.out _ HDA.out | (refine HCX.out _ ?_; repeat' (first | exact Below.refl _ _ | refine Below.drew ?_ | refine Below.setCell ?_ (by simp) _ | refine Below.alloc ?_ (by simp) _)))
          (fail)
        all_goals
          go_wp2
          go_meet
          case rel => exact ⟨rfl, ⟨((Below.refl _ _).alloc (Nat.le_refl _) _).drew⟩, ⟨heap_alloc_new wb _⟩⟩
      case rest =>
        obtain ⟨rfl, HBE, HBK2⟩ := hcut
        obtain ⟨g, hg⟩ : ∃ g, wb.heap.size = g := ⟨_, rfl⟩
        rw [hg] at HBK2
        simp only [hg]
        have HGE := Aside0.mk hg
        clear hg
        have HDN := Aside0.mk (HBd.out.trans (HBE.out.mono HBd.out.size))
        have hgw : w.heap.size ≤ g := by rw [← HGE.out]; exact HBd.out.size
        obtain ⟨wx, hwx⟩ : ∃ wx, wx = wc := ⟨_, rfl⟩
        subst hwx
        clear g0 f0 g1 f1 g2 f2 g3 f3 g4 f4 k0 k1 k2 k3 k4 hcx0 HCX HD9 HCV HD0 HA5 HA6 HA7 HA8
        obtain ⟨f, hf⟩ : ∃ f : Nat → Nat, f = fun i => ([y5, y6, y7, y8] : List Nat).getD i 0 := ⟨_, rfl⟩
        have hfi : ∀ i < 4, f i < 256 ∧ rd X ((5 + i : Nat) : Int) = (f i : Int) := by
          intro i hi
          obtain ⟨_, _, _, _, _, z5, z6, z7, z8⟩ := HY.out
          have q5 : y5 < 256 := by omega
          have q6 : y6 < 256 := by omega
          have q7 : y7 < 256 := by omega
          have q8 : y8 < 256 := by omega
          rw [hf]
          match i, hi with
          | 0, _ => exact ⟨q5, z5⟩
          | 1, _ => exact ⟨q6, z6⟩
          | 2, _ => exact ⟨q7, z7⟩
          | 3, _ => exact ⟨q8, z8⟩
        have HFI := Aside0.mk hfi
        have HF := Aside0.mk hf
        clear hfi hf
        have HRXE := Aside0.mk ((HRXc.out.below HBE.out))
        go_wp2_with fail
        go_loopw [47] (fun u wr => ∃ i pv : Nat, u = .int .i64 (i : Int) ∧ i ≤ 4 ∧ Aside0 (pv = sumN f i) ∧ Aside0 (wr.heap[g]? = some (.cells #[.int .i64 (y0 : Int), .int .i64 (y1 : Int), .int .i64 (y2 : Int), .int .i64 (pv : Int), .int .i64 (y3 : Int), .string ByteArray.empty, .int .i64 (y4 : Int), .string ByteArray.empty] 23 (0, 0))) ∧ Aside0 (Below g wx wr)) (fun u _ => 4 - (intOf u).toNat)
        case atStart => exact ⟨0, 0, rfl, by omega, ⟨rfl⟩, HBK2, ⟨Below.refl _ _⟩⟩
        case round =>
          obtain ⟨i, pv, rfl, hi, HPV, HBK3, HBr⟩ := hrel
          have HBD := Aside0.mk (HBE.out.trans (HGE.out ▸ HBr.out))
          by_cases hlt : i < 4
          · have h3 : wr.cell? ⟨g, 3, none⟩ = some (.int .i64 (pv : Int)) := blk_cell HBK3.out 3
            obtain ⟨_, e9, hx⟩ := (HRXc.out.below HBD.out).at_ (5 + (i : Int)) (by omega) (by omega)
            cases e9
            obtain ⟨hf1, hf2⟩ := HFI.out i hlt
            rw [show (5 : Int) + (i : Int) = ((5 + i : Nat) : Int) by omega] at hx
            rw [hf2] at hx
            rw [show ((5 + i : Nat) : Int) = (5 : Int) + (i : Int) by omega] at hx
            obtain ⟨y, hy⟩ : ∃ y, f i = y := ⟨_, rfl⟩
            rw [hy] at hx hf1
            have HO := Aside0.mk (or_shift8 pv y i (by rw [HPV.out]; exact sumN_lt f i (fun j hj => (HFI.out j (by omega)).1)) hf1 hlt)
            have hw1 : IntKind.i64.wrap (y : Int) = (y : Int) := wrap_small _ (by omega) (by omega)
            have hw2 : IntKind.i64.wrap (5 + (i : Int)) = 5 + (i : Int) := wrap_small _ (by omega) (by omega)
            have hw3 : IntKind.i64.wrap (8 * (i : Int)) = 8 * (i : Int) := wrap_small _ (by omega) (by omega)
            have g0 : (5 : Int) + (i : Int) < (xl : Int) := by omega
            have g2 : (0 : Int) ≤ 5 + (i : Int) := by omega
            have g3 : (0 : Int) ≤ 8 * (i : Int) := by omega
            have g1 : 5 + i < xl := by omega
            have HBKd : Aside0 (wr.drew.heap[g]? = some (.cells #[.int .i64 (y0 : Int), .int .i64 (y1 : Int), .int .i64 (y2 : Int), .int .i64 (pv : Int), .int .i64 (y3 : Int), .string ByteArray.empty, .int .i64 (y4 : Int), .string ByteArray.empty] 23 (0, 0))) := HBK3
            have HBrd : Aside0 (Below g wx wr.drew) := ⟨HBr.out.drew⟩
            go_wp2_with fail
            go_still_tail 12, (by kernel_rfl)
            change wpList _ _ _ _ _ wr.drew
            obtain ⟨wq, hwq⟩ : ∃ wq, wr.drew = wq := ⟨_, rfl⟩
            rw [hwq] at HBKd HBrd ⊢
            clear hwq h3 hx
            have h3 : wq.cell? ⟨g, 3, none⟩ = some (.int .i64 (pv : Int)) := blk_cell HBKd.out 3
            have hfz := blk_frozen HBKd.out 3
            go_wp2_with fail
            go_round
            case rel =>
              have hO : Go.bits .or .i64 (pv : Int) (wrap64 ((y : Int) * 2 ^ (8 * i))) = ((pv + y * 2 ^ (8 * i) : Nat) : Int) := by
                have h9 : wrap64 ((y : Int) * 2 ^ (8 * i)) = IntKind.i64.wrap ((y : Int) * 2 ^ (8 * i)) := by unfold wrap64; exact (IntKind.wrap_i64 _).symm
                rw [h9]
                exact HO.out
              rw [hO]
              refine ⟨i + 1, pv + y * 2 ^ (8 * i), rfl, by omega, ⟨by rw [sumN, ← HPV.out, hy]⟩, ⟨?_⟩, ⟨HBrd.out.setCell (p := ⟨g, 3, none⟩) (Nat.le_refl g) _⟩⟩
              have h9 := blk_set HBKd.out 3 (.int .i64 ((pv + y * 2 ^ (8 * i) : Nat) : Int))
              simp only [List.setIfInBounds_toArray, List.set_cons_zero, List.set_cons_succ] at h9
              exact h9
            case measure => simp [intOf]; omega
          · obtain rfl : i = 4 := by omega
            have HBW : Aside0 (wr.heap[w.heap.size]? = some (.cells #[.int .i64 0, .int .i64 0, .int .i64 0, .int .i64 0, .int .i64 0, .string ByteArray.empty, .int .i64 0, .string ByteArray.empty] 23)) := ⟨by rw [HBD.out.block _ hgs]; exact HBlk.out⟩
            have HBX := Aside0.mk (HBd.out.trans (HBD.out.mono HBd.out.size))
            have HRr := Aside0.mk (HRXc.out.below HBD.out)
            go_wp2_with fail
            refine (vget_new (some ad) xl c4 X 9 wr HXL.out.symm HRr.out (by omega) HXW.out).mono ?_
            rintro e w5 ⟨r1, r2, r3, rfl, HGV, rfl⟩
            rw [getX, HGV.out] at HPO
            simp only at HPO
            by_cases he : r3 = 0
            · subst he
              obtain ⟨m, r, rfl, hm64, rfl, hXr⟩ := getF_canon X 9 r1 r2 (by rw [HXL.out]; omega) HXW.out HGV.out
              have hlr : xl = 9 + ((enc 10 m).length + r.length) := by
                have h9 := congrArg List.length hXr
                rw [List.length_drop, List.length_append, HXL.out] at h9
                omega
              obtain ⟨at_, hat⟩ : ∃ at_, 9 + (enc 10 m).length = at_ := ⟨_, rfl⟩
              rw [hat] at HPO HGV
              have hat2 : at_ ≤ xl := by omega
              clear hlr
              have HXr := Aside0.mk hXr
              clear hXr
              rw [HXL.out] at HPO
              have hw1 : IntKind.i64.wrap ((xl : Int) - (at_ : Int)) = (xl : Int) - (at_ : Int) := wrap_small _ (by omega) (by omega)
              have hw2 : IntKind.u64.wrap ((xl : Int) - (at_ : Int)) = (xl : Int) - (at_ : Int) := wraps_u64 _ (by omega) (by omega)
              by_cases hmx : (xl : Int) - (at_ : Int) < (m : Int)
              · rw [if_pos (.inr hmx)] at HPO
                cases HPO
                have hmb : decide ((xl : Int) - (at_ : Int) < (m : Int)) = true := decide_eq_true hmx
                have hblk9 : wr.heap[w.heap.size]? = some (.cells #[.int .i64 0, .int .i64 0, .int .i64 0, .int .i64 0, .int .i64 0, .string ByteArray.empty, .int .i64 0, .string ByteArray.empty] 23) := HBW.out
                have z0 : wr.cell? ⟨w.heap.size, 0, none⟩ = some (.int .i64 0) := blk_cell hblk9 0
                have z1 : wr.cell? ⟨w.heap.size, 1, none⟩ = some (.int .i64 0) := blk_cell hblk9 1
                have z2 : wr.cell? ⟨w.heap.size, 2, none⟩ = some (.int .i64 0) := blk_cell hblk9 2
                have z3 : wr.cell? ⟨w.heap.size, 3, none⟩ = some (.int .i64 0) := blk_cell hblk9 3
                have z4 : wr.cell? ⟨w.heap.size, 4, none⟩ = some (.int .i64 0) := blk_cell hblk9 4
                have z5 : wr.cell? ⟨w.heap.size, 5, none⟩ = some (.string ByteArray.empty) := blk_cell hblk9 5
                have z6 : wr.cell? ⟨w.heap.size, 6, none⟩ = some (.int .i64 0) := blk_cell hblk9 6
                have z7 : wr.cell? ⟨w.heap.size, 7, none⟩ = some (.string ByteArray.empty) := blk_cell hblk9 7
                have hfz := fun i => blk_frozen hblk9 i
                go_wp2_with fail
                change bodyPost _ _ _ _ _ (put8 wr w.heap.size (.int .i64 0) (.int .i64 0) (.int .i64 0) (.int .i64 0) (.int .i64 0) (.string ByteArray.empty) (.int .i64 0) (.string ByteArray.empty))
                have hb8 := put8_below HBX.out (Nat.le_refl w.heap.size) (.int .i64 0) (.int .i64 0) (.int .i64 0) (.int .i64 0) (.int .i64 0) (.string ByteArray.empty) (.int .i64 0) (.string ByteArray.empty)
                have hk8 := put8_blk hblk9 (.int .i64 0) (.int .i64 0) (.int .i64 0) (.int .i64 0) (.int .i64 0) (.string ByteArray.empty) (.int .i64 0) (.string ByteArray.empty)
                obtain ⟨w8, hw8⟩ : ∃ w8, put8 wr w.heap.size (.int .i64 0) (.int .i64 0) (.int .i64 0) (.int .i64 0) (.int .i64 0) (.string ByteArray.empty) (.int .i64 0) (.string ByteArray.empty) = w8 := ⟨_, rfl⟩
                rw [hw8] at hb8 hk8 ⊢
                clear hw8 z0 z1 z2 z3 z4 z5 z6 z7 hfz hblk9
                have z0 : w8.cell? ⟨w.heap.size, 0, none⟩ = some (.int .i64 0) := blk_cell hk8 0
                have z1 : w8.cell? ⟨w.heap.size, 1, none⟩ = some (.int .i64 0) := blk_cell hk8 1
                have z2 : w8.cell? ⟨w.heap.size, 2, none⟩ = some (.int .i64 0) := blk_cell hk8 2
                have z3 : w8.cell? ⟨w.heap.size, 3, none⟩ = some (.int .i64 0) := blk_cell hk8 3
                have z4 : w8.cell? ⟨w.heap.size, 4, none⟩ = some (.int .i64 0) := blk_cell hk8 4
                have z5 : w8.cell? ⟨w.heap.size, 5, none⟩ = some (.string ByteArray.empty) := blk_cell hk8 5
                have z6 : w8.cell? ⟨w.heap.size, 6, none⟩ = some (.int .i64 0) := blk_cell hk8 6
                have z7 : w8.cell? ⟨w.heap.size, 7, none⟩ = some (.string ByteArray.empty) := blk_cell hk8 7
                refine bodyPost_ret (v := .tuple #[pkV pk0, .int .i64 3]) ?_ rfl ?_
                · rw [results_cell_tmp rfl]
                  go_simp
                  rfl
                · exact ⟨rfl, hb8⟩
              · rw [if_neg (by rintro (h | h); exact h rfl; exact hmx h)] at HPO
                have hmb : decide ((xl : Int) - (at_ : Int) < (m : Int)) = false := decide_eq_false hmx
                have hmx2 : m ≤ xl - at_ := by omega
                have hmt : at_ + m ≤ xl := by omega
                obtain ⟨i1, hi1, _, hsz1, _⟩ := info_parts info5
                obtain ⟨A5, hmc, hmr⟩ := mid_int (P := Tryd.prog) (k := .u8) 24 5 Tryd.underlying24 hi1 hsz1 (some ad) c4 X at_ (at_ + m) (by omega) (by rw [HXL.out]; omega) (by rw [HXL.out]; omega)
                obtain ⟨A6, hdc, hdr⟩ := drop_int (P := Tryd.prog) (k := .u8) 24 5 Tryd.underlying24 hi1 hsz1 (some ad) c4 X (at_ + m) (by rw [HXL.out]; omega) (by rw [HXL.out]; omega)
                simp only [Nat.add_sub_cancel_left, HXL.out] at hmc hmr hdc hdr
                have hcm := fun W => hmc W (at_ : Int) ((at_ : Int) + (m : Int)) rfl (by omega)
                have hcd := fun W => hdc W ((at_ : Int) + (m : Int)) (by omega)
                obtain ⟨c5, hc5⟩ : ∃ c5, c4 - at_ = c5 := ⟨_, rfl⟩
                obtain ⟨c6, hc6⟩ : ∃ c6, c4 - (at_ + m) = c6 := ⟨_, rfl⟩
                obtain ⟨n6, hn6⟩ : ∃ n6, xl - (at_ + m) = n6 := ⟨_, rfl⟩
                simp only [hc5] at hcm
                simp only [hc6, hn6] at hcd
                rw [hn6] at hdr
                obtain ⟨ms, hms⟩ : ∃ s, strOfNums ((X.drop at_).take m) = s := ⟨_, rfl⟩
                obtain ⟨bo, hbo⟩ : ∃ s, strOfNums (X.drop (at_ + m)) = s := ⟨_, rfl⟩
                have hRg : ∀ W, Below g wr W → ReadsInt W .u8 (some ad) xl X := fun W hW => HRXc.out.below (HBD.out.trans (HGE.out ▸ hW))
                have HCV := Aside0.mk (show ∀ W, Below g wr W → (convert 24 9 (.slice A5 m c5)).run Tryd.prog W = .ok (.string ms) W ∧ (convert 24 9 (.slice A6 n6 c6)).run Tryd.prog W = .ok (.string bo) W from fun W hW => ⟨by rw [← hms]; exact str_reads (hmr W (hRg W hW)), by rw [← hbo]; exact str_reads (hdr W (hRg W hW))⟩)
                have HMS := Aside0.mk hms
                have HBO := Aside0.mk hbo
                have HD9 := Aside0.mk (show Below g wr wr.drew from (Below.refl _ _).drew)
                have hcv9 := HCV.out _ HD9.out
                have hw3 : IntKind.i64.wrap (m : Int) = (m : Int) := wrap_small _ (by omega) (by omega)
                have hw4 : IntKind.i64.wrap ((at_ : Int) + (m : Int)) = (at_ : Int) + (m : Int) := wrap_small _ (by omega) (by omega)
                have h5 : wr.cell? ⟨g, 5, none⟩ = some (.string ByteArray.empty) := blk_cell HBK3.out 5
                have h7 : wr.cell? ⟨g, 7, none⟩ = some (.string ByteArray.empty) := blk_cell HBK3.out 7
                have hfz : ∀ i, wr.frozen? ⟨g, i, none⟩ = false := fun i => blk_frozen HBK3.out i
                clear hmc hmr hdc hdr hms hbo hRg hi1 hsz1
                go_wp2_with fail
                go_cut [89] (fun v wd => v = .string ms ∧ Aside0 (wd = (wr.drew.setCell ⟨g, 5, none⟩ (.string ms)).setCell ⟨g, 7, none⟩ (.string bo)))
                case first =>
                  go_region_held (fun W => (convert 24 9 (.slice A5 m c5)).run Tryd.prog W = .ok (.string ms) W ∧ (convert 24 9 (.slice A6 n6 c6)).run Tryd.prog W = .ok (.string bo) W) (first | exact HCV.out _ (Aside0.out (by assumption)) | (refine HCV.out _ ?_; repeat' (first | exact Below.refl _ _ | refine Below.drew ?_ | refine Below.setCell ?_ (Nat.le_refl g) _)))
                    (fail)
                  all_goals
                    go_wp2
                    go_meet
                    case rel => exact ⟨rfl, ⟨rfl⟩⟩
                case rest =>
                  obtain ⟨rfl, HWC⟩ := hcut
                  have HK9 : Aside0 (wc.heap[g]? = some (.cells #[.int .i64 (y0 : Int), .int .i64 (y1 : Int), .int .i64 (y2 : Int), .int .i64 (pv : Int), .int .i64 (y3 : Int), .string ms, .int .i64 (y4 : Int), .string bo] 23 (0, 0))) := ⟨by
                    have hd : wr.drew.heap[g]? = _ := HBK3.out
                    have h9 := blk_set (blk_set hd 5 (.string ms)) 7 (.string bo)
                    simp only [List.setIfInBounds_toArray, List.set_cons_zero, List.set_cons_succ] at h9
                    rw [HWC.out]
                    exact h9⟩
                  have HB9 : Aside0 (Below g wx wc) := ⟨by rw [HWC.out]; exact (HBr.out.drew.setCell (p := ⟨g, 5, none⟩) (Nat.le_refl g) _).setCell (p := ⟨g, 7, none⟩) (Nat.le_refl g) _⟩
                  have HBD9 := Aside0.mk (HBE.out.trans (HGE.out ▸ HB9.out))
                  have HBXC := Aside0.mk (HBd.out.trans (HBD9.out.mono HBd.out.size))
                  have HBWC : Aside0 (wc.heap[w.heap.size]? = some (.cells #[.int .i64 0, .int .i64 0, .int .i64 0, .int .i64 0, .int .i64 0, .string ByteArray.empty, .int .i64 0, .string ByteArray.empty] 23)) := ⟨by rw [HBD9.out.block _ hgs]; exact HBlk.out⟩
                  have hgc : g < wc.heap.size := blk_lt HK9.out
                  have hgw2 : w.heap.size < g := by rw [← HGE.out]; exact hgs
                  have hrb : readB X m at_ = ⟨(y0 : Int), (y1 : Int), (y2 : Int), (pv : Int), (y3 : Int), ms, (y4 : Int), bo⟩ := by
                    obtain ⟨z0, z1, z2, z3, z4, z5, z6, z7, z8⟩ := HY.out
                    rw [readB, HMS.out, HBO.out]
                    have e (i : Nat) : X.getD i 0 = rd X (i : Int) := rfl
                    rw [e 0, e 1, e 2, e 3, e 4, e 5, e 6, e 7, e 8, z0, z1, z2, z3, z4, z5, z6, z7, z8, HPV.out, HF.out]
                    have : ((sumN (fun i => ([y5, y6, y7, y8] : List Nat).getD i 0) 4 : Nat) : Int) = (y5 : Int) + 256 * (y6 : Int) + 65536 * (y7 : Int) + 16777216 * (y8 : Int) := by
                      simp only [sumN, List.getD_cons_zero, List.getD_cons_succ]
                      omega
                    rw [this]
                  rw [Int.toNat_natCast, Int.toNat_natCast, hrb] at HPO
                  obtain ⟨v, hv⟩ : ∃ v, pkOk ⟨(y0 : Int), (y1 : Int), (y2 : Int), (pv : Int), (y3 : Int), ms, (y4 : Int), bo⟩ = v := ⟨_, rfl⟩
                  rw [hv] at HPO
                  have HV := Aside0.mk hv
                  have hmsz : ms.size ≤ 4611686018427387904 := by rw [← HMS.out, strOfNums_size, List.length_take, List.length_drop, HXL.out]; omega
                  have hbsz : bo.size ≤ 4611686018427387904 := by rw [← HBO.out, strOfNums_size, List.length_drop, HXL.out]; omega
                  clear hv hrb hcv9 hcm hcd h5 h7 hfz HCV
                  have q0 : wc.cell? ⟨g, 0, none⟩ = some (.int .i64 (y0 : Int)) := blk_cell HK9.out 0
                  have q1 : wc.cell? ⟨g, 1, none⟩ = some (.int .i64 (y1 : Int)) := blk_cell HK9.out 1
                  have q2 : wc.cell? ⟨g, 2, none⟩ = some (.int .i64 (y2 : Int)) := blk_cell HK9.out 2
                  have q3 : wc.cell? ⟨g, 3, none⟩ = some (.int .i64 (pv : Int)) := blk_cell HK9.out 3
                  have q4 : wc.cell? ⟨g, 4, none⟩ = some (.int .i64 (y3 : Int)) := blk_cell HK9.out 4
                  have q5 : wc.cell? ⟨g, 5, none⟩ = some (.string ms) := blk_cell HK9.out 5
                  have q6 : wc.cell? ⟨g, 6, none⟩ = some (.int .i64 (y4 : Int)) := blk_cell HK9.out 6
                  have q7 : wc.cell? ⟨g, 7, none⟩ = some (.string bo) := blk_cell HK9.out 7
                  go_wp2_with fail
                  refine (check_at (y0 : Int) (y1 : Int) (y2 : Int) (pv : Int) (y3 : Int) ms (y4 : Int) bo wc hmsz hbsz (tabs_below HT.out HBXC.out) v HV).mono ?_
                  rintro e we ⟨rfl, hBe⟩
                  clear q0 q1 q2 q3 q4 q5 q6 q7
                  have HKE : Aside0 (we.heap[g]? = some (.cells #[.int .i64 (y0 : Int), .int .i64 (y1 : Int), .int .i64 (y2 : Int), .int .i64 (pv : Int), .int .i64 (y3 : Int), .string ms, .int .i64 (y4 : Int), .string bo] 23 (0, 0))) := ⟨by rw [hBe.block _ hgc]; exact HK9.out⟩
                  have HBW9 : Aside0 (we.heap[w.heap.size]? = some (.cells #[.int .i64 0, .int .i64 0, .int .i64 0, .int .i64 0, .int .i64 0, .string ByteArray.empty, .int .i64 0, .string ByteArray.empty] 23)) := ⟨by rw [hBe.block _ (by omega)]; exact HBWC.out⟩
                  have HBX9 := Aside0.mk (HBXC.out.trans (hBe.mono HBXC.out.size))
                  clear hBe
                  cases v with
                  | false =>
                    rw [if_neg (by decide)] at HPO
                    cases HPO
                    have hblk9 : we.heap[w.heap.size]? = some (.cells #[.int .i64 0, .int .i64 0, .int .i64 0, .int .i64 0, .int .i64 0, .string ByteArray.empty, .int .i64 0, .string ByteArray.empty] 23) := HBW9.out
                    have z0 : we.cell? ⟨w.heap.size, 0, none⟩ = some (.int .i64 0) := blk_cell hblk9 0
                    have z1 : we.cell? ⟨w.heap.size, 1, none⟩ = some (.int .i64 0) := blk_cell hblk9 1
                    have z2 : we.cell? ⟨w.heap.size, 2, none⟩ = some (.int .i64 0) := blk_cell hblk9 2
                    have z3 : we.cell? ⟨w.heap.size, 3, none⟩ = some (.int .i64 0) := blk_cell hblk9 3
                    have z4 : we.cell? ⟨w.heap.size, 4, none⟩ = some (.int .i64 0) := blk_cell hblk9 4
                    have z5 : we.cell? ⟨w.heap.size, 5, none⟩ = some (.string ByteArray.empty) := blk_cell hblk9 5
                    have z6 : we.cell? ⟨w.heap.size, 6, none⟩ = some (.int .i64 0) := blk_cell hblk9 6
                    have z7 : we.cell? ⟨w.heap.size, 7, none⟩ = some (.string ByteArray.empty) := blk_cell hblk9 7
                    have hfz := fun i => blk_frozen hblk9 i
                    go_wp2_with fail
                    change bodyPost _ _ _ _ _ (put8 we w.heap.size (.int .i64 0) (.int .i64 0) (.int .i64 0) (.int .i64 0) (.int .i64 0) (.string ByteArray.empty) (.int .i64 0) (.string ByteArray.empty))
                    have hb8 := put8_below HBX9.out (Nat.le_refl w.heap.size) (.int .i64 0) (.int .i64 0) (.int .i64 0) (.int .i64 0) (.int .i64 0) (.string ByteArray.empty) (.int .i64 0) (.string ByteArray.empty)
                    have hk8 := put8_blk hblk9 (.int .i64 0) (.int .i64 0) (.int .i64 0) (.int .i64 0) (.int .i64 0) (.string ByteArray.empty) (.int .i64 0) (.string ByteArray.empty)
                    obtain ⟨w8, hw8⟩ : ∃ w8, put8 we w.heap.size (.int .i64 0) (.int .i64 0) (.int .i64 0) (.int .i64 0) (.int .i64 0) (.string ByteArray.empty) (.int .i64 0) (.string ByteArray.empty) = w8 := ⟨_, rfl⟩
                    rw [hw8] at hb8 hk8 ⊢
                    clear hw8 z0 z1 z2 z3 z4 z5 z6 z7 hfz hblk9
                    have z0 : w8.cell? ⟨w.heap.size, 0, none⟩ = some (.int .i64 0) := blk_cell hk8 0
                    have z1 : w8.cell? ⟨w.heap.size, 1, none⟩ = some (.int .i64 0) := blk_cell hk8 1
                    have z2 : w8.cell? ⟨w.heap.size, 2, none⟩ = some (.int .i64 0) := blk_cell hk8 2
                    have z3 : w8.cell? ⟨w.heap.size, 3, none⟩ = some (.int .i64 0) := blk_cell hk8 3
                    have z4 : w8.cell? ⟨w.heap.size, 4, none⟩ = some (.int .i64 0) := blk_cell hk8 4
                    have z5 : w8.cell? ⟨w.heap.size, 5, none⟩ = some (.string ByteArray.empty) := blk_cell hk8 5
                    have z6 : w8.cell? ⟨w.heap.size, 6, none⟩ = some (.int .i64 0) := blk_cell hk8 6
                    have z7 : w8.cell? ⟨w.heap.size, 7, none⟩ = some (.string ByteArray.empty) := blk_cell hk8 7
                    refine bodyPost_ret (v := .tuple #[pkV pk0, .int .i64 3]) ?_ rfl ?_
                    · rw [results_cell_tmp rfl]
                      go_simp
                      rfl
                    · exact ⟨rfl, hb8⟩
                  | true =>
                    rw [if_pos rfl] at HPO
                    cases HPO
                    have hblk9 : we.heap[w.heap.size]? = some (.cells #[.int .i64 0, .int .i64 0, .int .i64 0, .int .i64 0, .int .i64 0, .string ByteArray.empty, .int .i64 0, .string ByteArray.empty] 23) := HBW9.out
                    have z0 : we.cell? ⟨w.heap.size, 0, none⟩ = some (.int .i64 0) := blk_cell hblk9 0
                    have z1 : we.cell? ⟨w.heap.size, 1, none⟩ = some (.int .i64 0) := blk_cell hblk9 1
                    have z2 : we.cell? ⟨w.heap.size, 2, none⟩ = some (.int .i64 0) := blk_cell hblk9 2
                    have z3 : we.cell? ⟨w.heap.size, 3, none⟩ = some (.int .i64 0) := blk_cell hblk9 3
                    have z4 : we.cell? ⟨w.heap.size, 4, none⟩ = some (.int .i64 0) := blk_cell hblk9 4
                    have z5 : we.cell? ⟨w.heap.size, 5, none⟩ = some (.string ByteArray.empty) := blk_cell hblk9 5
                    have z6 : we.cell? ⟨w.heap.size, 6, none⟩ = some (.int .i64 0) := blk_cell hblk9 6
                    have z7 : we.cell? ⟨w.heap.size, 7, none⟩ = some (.string ByteArray.empty) := blk_cell hblk9 7
                    have p0 : we.cell? ⟨g, 0, none⟩ = some (.int .i64 (y0 : Int)) := blk_cell HKE.out 0
                    have p1 : we.cell? ⟨g, 1, none⟩ = some (.int .i64 (y1 : Int)) := blk_cell HKE.out 1
                    have p2 : we.cell? ⟨g, 2, none⟩ = some (.int .i64 (y2 : Int)) := blk_cell HKE.out 2
                    have p3 : we.cell? ⟨g, 3, none⟩ = some (.int .i64 (pv : Int)) := blk_cell HKE.out 3
                    have p4 : we.cell? ⟨g, 4, none⟩ = some (.int .i64 (y3 : Int)) := blk_cell HKE.out 4
                    have p5 : we.cell? ⟨g, 5, none⟩ = some (.string ms) := blk_cell HKE.out 5
                    have p6 : we.cell? ⟨g, 6, none⟩ = some (.int .i64 (y4 : Int)) := blk_cell HKE.out 6
                    have p7 : we.cell? ⟨g, 7, none⟩ = some (.string bo) := blk_cell HKE.out 7
                    have hfz := fun i => blk_frozen hblk9 i
                    go_wp2_with fail
                    change bodyPost _ _ _ _ _ (put8 we w.heap.size (.int .i64 (y0 : Int)) (.int .i64 (y1 : Int)) (.int .i64 (y2 : Int)) (.int .i64 (pv : Int)) (.int .i64 (y3 : Int)) (.string ms) (.int .i64 (y4 : Int)) (.string bo))
                    have hb8 := put8_below HBX9.out (Nat.le_refl w.heap.size) (.int .i64 (y0 : Int)) (.int .i64 (y1 : Int)) (.int .i64 (y2 : Int)) (.int .i64 (pv : Int)) (.int .i64 (y3 : Int)) (.string ms) (.int .i64 (y4 : Int)) (.string bo)
                    have hk8 := put8_blk hblk9 (.int .i64 (y0 : Int)) (.int .i64 (y1 : Int)) (.int .i64 (y2 : Int)) (.int .i64 (pv : Int)) (.int .i64 (y3 : Int)) (.string ms) (.int .i64 (y4 : Int)) (.string bo)
                    obtain ⟨w8, hw8⟩ : ∃ w8, put8 we w.heap.size (.int .i64 (y0 : Int)) (.int .i64 (y1 : Int)) (.int .i64 (y2 : Int)) (.int .i64 (pv : Int)) (.int .i64 (y3 : Int)) (.string ms) (.int .i64 (y4 : Int)) (.string bo) = w8 := ⟨_, rfl⟩
                    rw [hw8] at hb8 hk8 ⊢
                    clear hw8 z0 z1 z2 z3 z4 z5 z6 z7 hfz hblk9 p0 p1 p2 p3 p4 p5 p6 p7
                    have z0 : w8.cell? ⟨w.heap.size, 0, none⟩ = some (.int .i64 (y0 : Int)) := blk_cell hk8 0
                    have z1 : w8.cell? ⟨w.heap.size, 1, none⟩ = some (.int .i64 (y1 : Int)) := blk_cell hk8 1
                    have z2 : w8.cell? ⟨w.heap.size, 2, none⟩ = some (.int .i64 (y2 : Int)) := blk_cell hk8 2
                    have z3 : w8.cell? ⟨w.heap.size, 3, none⟩ = some (.int .i64 (pv : Int)) := blk_cell hk8 3
                    have z4 : w8.cell? ⟨w.heap.size, 4, none⟩ = some (.int .i64 (y3 : Int)) := blk_cell hk8 4
                    have z5 : w8.cell? ⟨w.heap.size, 5, none⟩ = some (.string ms) := blk_cell hk8 5
                    have z6 : w8.cell? ⟨w.heap.size, 6, none⟩ = some (.int .i64 (y4 : Int)) := blk_cell hk8 6
                    have z7 : w8.cell? ⟨w.heap.size, 7, none⟩ = some (.string bo) := blk_cell hk8 7
                    refine bodyPost_ret (v := .tuple #[pkV ⟨(y0 : Int), (y1 : Int), (y2 : Int), (pv : Int), (y3 : Int), ms, (y4 : Int), bo⟩, .int .i64 0]) ?_ rfl ?_
                    · rw [results_cell_tmp rfl]
                      go_simp
                      rfl
                    · exact ⟨rfl, hb8⟩
            · rw [if_pos (.inl he)] at HPO
              cases HPO
              have heb : (r3 == 0) = false := beq_eq_false_iff_ne.2 he
              have hblk9 : wr.heap[w.heap.size]? = some (.cells #[.int .i64 0, .int .i64 0, .int .i64 0, .int .i64 0, .int .i64 0, .string ByteArray.empty, .int .i64 0, .string ByteArray.empty] 23) := HBW.out
              have z0 : wr.cell? ⟨w.heap.size, 0, none⟩ = some (.int .i64 0) := blk_cell hblk9 0
              have z1 : wr.cell? ⟨w.heap.size, 1, none⟩ = some (.int .i64 0) := blk_cell hblk9 1
              have z2 : wr.cell? ⟨w.heap.size, 2, none⟩ = some (.int .i64 0) := blk_cell hblk9 2
              have z3 : wr.cell? ⟨w.heap.size, 3, none⟩ = some (.int .i64 0) := blk_cell hblk9 3
              have z4 : wr.cell? ⟨w.heap.size, 4, none⟩ = some (.int .i64 0) := blk_cell hblk9 4
              have z5 : wr.cell? ⟨w.heap.size, 5, none⟩ = some (.string ByteArray.empty) := blk_cell hblk9 5
              have z6 : wr.cell? ⟨w.heap.size, 6, none⟩ = some (.int .i64 0) := blk_cell hblk9 6
              have z7 : wr.cell? ⟨w.heap.size, 7, none⟩ = some (.string ByteArray.empty) := blk_cell hblk9 7
              have hfz := fun i => blk_frozen hblk9 i
              go_wp2_with fail
              change bodyPost _ _ _ _ _ (put8 wr w.heap.size (.int .i64 0) (.int .i64 0) (.int .i64 0) (.int .i64 0) (.int .i64 0) (.string ByteArray.empty) (.int .i64 0) (.string ByteArray.empty))
              have hb8 := put8_below HBX.out (Nat.le_refl w.heap.size) (.int .i64 0) (.int .i64 0) (.int .i64 0) (.int .i64 0) (.int .i64 0) (.string ByteArray.empty) (.int .i64 0) (.string ByteArray.empty)
              have hk8 := put8_blk hblk9 (.int .i64 0) (.int .i64 0) (.int .i64 0) (.int .i64 0) (.int .i64 0) (.string ByteArray.empty) (.int .i64 0) (.string ByteArray.empty)
              obtain ⟨w8, hw8⟩ : ∃ w8, put8 wr w.heap.size (.int .i64 0) (.int .i64 0) (.int .i64 0) (.int .i64 0) (.int .i64 0) (.string ByteArray.empty) (.int .i64 0) (.string ByteArray.empty) = w8 := ⟨_, rfl⟩
              rw [hw8] at hb8 hk8 ⊢
              clear hw8 z0 z1 z2 z3 z4 z5 z6 z7 hfz hblk9
              have z0 : w8.cell? ⟨w.heap.size, 0, none⟩ = some (.int .i64 0) := blk_cell hk8 0
              have z1 : w8.cell? ⟨w.heap.size, 1, none⟩ = some (.int .i64 0) := blk_cell hk8 1
              have z2 : w8.cell? ⟨w.heap.size, 2, none⟩ = some (.int .i64 0) := blk_cell hk8 2
              have z3 : w8.cell? ⟨w.heap.size, 3, none⟩ = some (.int .i64 0) := blk_cell hk8 3
              have z4 : w8.cell? ⟨w.heap.size, 4, none⟩ = some (.int .i64 0) := blk_cell hk8 4
              have z5 : w8.cell? ⟨w.heap.size, 5, none⟩ = some (.string ByteArray.empty) := blk_cell hk8 5
              have z6 : w8.cell? ⟨w.heap.size, 6, none⟩ = some (.int .i64 0) := blk_cell hk8 6
              have z7 : w8.cell? ⟨w.heap.size, 7, none⟩ = some (.string ByteArray.empty) := blk_cell hk8 7
              refine bodyPost_ret (v := .tuple #[pkV pk0, .int .i64 3]) ?_ rfl ?_
              · rw [results_cell_tmp rfl]
                go_simp
                rfl
              · exact ⟨rfl, hb8⟩
/-- packet.Get, of any bytes. -/
theorem get_any (A : Option Addr) (n c : Nat) (bs : List Int) (w : World) (hn : n = bs.length) (hr : ReadsInt w .u8 A n bs) (hc : n ≤ c) (hl : bs.length ≤ 140737488351232) (hw : ∀ x ∈ bs, 0 ≤ x ∧ x ≤ 255) (hT : Tabs w) (p : Pk) (er : Nat) (hp : Aside0 (getB bs = (p, er))) :
    Calls Tryd.prog 12 #[.slice A n c] w fun e w' => e = .returned (.tuple #[pkV p, .int .i64 (er : Int)]) ∧ Below w.heap.size w w' := by
  by_cases h : bs.length < 14
  · have e := hp.out
    rw [getB, if_pos h] at e
    cases e
    exact get_short A n c bs w hn hr hc h
  · exact get_long A n c bs w hn hr hc (by omega) hl hw hT p er hp
end Go.Proofs.YtabcaeckoghmpaaDoor
