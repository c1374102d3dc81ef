/- Texts of the parser's walk, laid together. -/
import Derived.Test.YtbfhglaaombglaaDoorIgD
import Derived.Test.YtbfhglaaombglaaDoorIgB
import Derived.Test.YtbfhglaaombglaaDoorPIdlParsesx1
/- The parser: resolve. -/
namespace Go.Proofs.YtbfhglaaombglaaDoor
set_option linter.unusedVariables false
set_option linter.unusedSimpArgs false
open Go.RowKit Go.ChangeMaps Go.Proofs.YtbfhglaaombglaaDoorW.PrintWords Go.Proofs.YtbfhglaaombglaaDoorW.PrintMore Go.Proofs.YtbfhglaaombglaaDoor.PIdlParses

/-- Is a name an enumeration's? -/
def inE (es : List S68) (k : ByteArray) : Bool := es.any (fun e => decide (e.f0 = k))
def r1 (es : List S68) (f : S43) : S43 := if f.f3.f0 = 7 ∧ inE es f.f3.f1 = true then putK f 6 else f
def rM (es : List S68) (x : Ms) : Ms := (⟨x.1.f0, x.1.f1.map (r1 es), x.1.f2⟩, x.2.1, x.2.2)
/-- The first i of them are resolved. -/
structure Upto (es : List S68) (X0 X : List Ms) (i : Nat) : Prop where
  len : X.length = X0.length
  el : ∀ i' x, X0[i']? = some x → X[i']? = some (if i' < i then rM es x else x)
theorem Upto.pair {es : List S68} {X0 X : List Ms} {i : Nat} (h : Upto es X0 X i) (hp : X0.Pairwise (fun a b => a.2.2 ≤ b.2.1)) : X.Pairwise (fun a b => a.2.2 ≤ b.2.1) := by
  rw [List.pairwise_iff_getElem] at hp ⊢
  intro a b ha hb hab
  have ha0 : a < X0.length := by rw [← h.len]; exact ha
  have hb0 : b < X0.length := by rw [← h.len]; exact hb
  have h1 := h.el a _ (List.getElem?_eq_getElem ha0)
  have h2 := h.el b _ (List.getElem?_eq_getElem hb0)
  rw [List.getElem?_eq_getElem ha] at h1
  rw [List.getElem?_eq_getElem hb] at h2
  rw [Option.some.inj h1, Option.some.inj h2]
  have := hp a b ha0 hb0 hab
  split <;> split <;> exact this
theorem Upto.zero (es : List S68) (X0 : List Ms) : Upto es X0 X0 0 := ⟨rfl, fun i' x h => by rw [if_neg (by omega)]; exact h⟩
theorem Upto.all {es : List S68} {X0 X : List Ms} (h : Upto es X0 X X0.length) : X = X0.map (rM es) := by
  apply List.ext_getElem?
  intro i
  rw [List.getElem?_map]
  cases hx : X0[i]? with
  | none => rw [Option.map_none, List.getElem?_eq_none]; rw [h.len]; exact List.getElem?_eq_none_iff.1 hx
  | some x =>
    have := h.el i x hx
    rw [if_pos (List.getElem?_eq_some_iff.1 hx).1] at this
    exact this
/-- The first j fields of one are resolved. -/
structure UptoF (es : List S68) (F0 F : List S43) (j : Nat) : Prop where
  len : F.length = F0.length
  el : ∀ j' x, F0[j']? = some x → F[j']? = some (if j' < j then r1 es x else x)
theorem UptoF.zero (es : List S68) (F0 : List S43) : UptoF es F0 F0 0 := ⟨rfl, fun i' x h => by rw [if_neg (by omega)]; exact h⟩
theorem UptoF.all {es : List S68} {F0 F : List S43} (h : UptoF es F0 F F0.length) : F = F0.map (r1 es) := by
  apply List.ext_getElem?
  intro i
  rw [List.getElem?_map]
  cases hx : F0[i]? with
  | none => rw [Option.map_none, List.getElem?_eq_none]; rw [h.len]; exact List.getElem?_eq_none_iff.1 hx
  | some x =>
    have := h.el i x hx
    rw [if_pos (List.getElem?_eq_some_iff.1 hx).1] at this
    exact this
theorem UptoF.same {es : List S68} {F0 F : List S43} {j : Nat} (h : UptoF es F0 F j) {f : S43} (hf : F0[j]? = some f) (hr : r1 es f = f) : UptoF es F0 F (j + 1) :=
  ⟨h.len, fun j' x hx => by
    rw [h.el j' x hx]
    by_cases h1 : j' < j
    · rw [if_pos h1, if_pos (by omega)]
    · by_cases h2 : j' = j
      · subst h2
        rw [hf] at hx
        cases hx
        rw [if_neg h1, if_pos (by omega), hr]
      · rw [if_neg h1, if_neg (by omega)]⟩
theorem UptoF.put {es : List S68} {F0 F : List S43} {j : Nat} (h : UptoF es F0 F j) {f : S43} (hf : F0[j]? = some f) (hr : r1 es f = putK f 6) : UptoF es F0 (F.set j (putK f 6)) (j + 1) :=
  ⟨by rw [List.length_set]; exact h.len, fun j' x hx => by
    have hjl : j < F.length := by rw [h.len]; exact (List.getElem?_eq_some_iff.1 hf).1
    by_cases h2 : j' = j
    · subst h2
      rw [hf] at hx
      cases hx
      rw [List.getElem?_set_self hjl, if_pos (by omega), hr]
    · rw [List.getElem?_set_ne (fun e => h2 e.symm), h.el j' x hx]
      by_cases h1 : j' < j
      · rw [if_pos h1, if_pos (by omega)]
      · rw [if_neg h1, if_neg (by omega)]⟩
/-- What resolve may not change. -/
def ResFr (w w1 : World) : Prop := ∀ (k : Nat) (c : Array Value) (t : TypeId), w.heap[k]? = some (.cells c t (0, 0)) → t ≠ 43 → w1.heap[k]? = some (.cells c t (0, 0))
theorem ResFr.of_below {w w1 : World} (h : Below w.heap.size w w1) : ResFr w w1 := fun k c t hk _ => (h.block k (blk_lt hk)).trans hk
theorem ResFr.trans {w w1 w2 : World} (h : ResFr w w1) (k : ResFr w1 w2) : ResFr w w2 := fun x c t hx ht => k x c t (h x c t hx ht) ht
/-- The map of names. -/
def EMap (w : World) (mb : Nat) (es : List S68) : Prop := ∃ L c, MapRel Value.string Value.bool okS w mb L c ∧ ∀ k, getL L k = if inE es k then some true else none
theorem EMap.of_heap {w w1 : World} {mb : Nat} {es : List S68} (h : EMap w mb es) (he : w1.heap[mb]? = w.heap[mb]?) : EMap w1 mb es := by
  obtain ⟨L, c, h1, h2⟩ := h
  exact ⟨L, c, h1.of_heap he, h2⟩
theorem EMap.below {w w1 : World} {mb : Nat} {es : List S68} (h : EMap w mb es) (hb : Below w.heap.size w w1) : EMap w1 mb es := by
  obtain ⟨L, c, h1, h2⟩ := h
  exact ⟨L, c, h1.of_heap (hb.block _ h1.lt), h2⟩
theorem EMap.lt {w : World} {mb : Nat} {es : List S68} (h : EMap w mb es) : mb < w.heap.size := by
  obtain ⟨L, c, h1, _⟩ := h
  exact h1.lt
theorem EMap.isMap {w : World} {mb : Nat} {es : List S68} (h : EMap w mb es) : ∃ c n, w.heap[mb]? = some (.map c n) := by
  obtain ⟨L, c, h1, _⟩ := h
  exact ⟨_, _, h1.blk⟩
theorem zeroBool : ∀ W, (zeroValue 4).run Tryd.prog W = .ok (.bool false) W := by
  intro W
  obtain ⟨i, hi, hz, _⟩ := info_parts (show (Tryd.prog.info? 4).map (fun i => (i.zero, i.size, i.bytes)) = some (some (.bool false), 1, 1) by kernel_rfl)
  simp [zeroValue, typeInfo, hi, hz]
theorem inE_snoc (es : List S68) (e : S68) (k : ByteArray) : inE (es ++ [e]) k = (inE es k || decide (e.f0 = k)) := by simp [inE]

set_option maxRecDepth 100000 in
set_option maxHeartbeats 4000000 in
theorem resolve_any (w : World) (B g gm ge : Nat) (nm : ByteArray) (Am Ae : Option Addr) (cm ce : Nat) (vT : Value) (X0 : List Ms) (es : List S68)
    (hk : w.heap[g]? = some (.cells #[.string nm, .slice Am X0.length cm, .slice Ae es.length ce, vT] 27 (0, 0)))
    (hm : 0 < X0.length → Am = some ⟨gm, 0, none⟩ ∧ MsgsAt w B gm X0) (hap : X0.Pairwise (fun a b => a.2.2 ≤ b.2.1)) (hX : X0.length ≤ 9223372036854775807) (hF : ∀ x ∈ X0, x.1.f1.length ≤ 9223372036854775807 ∧ ∀ f ∈ x.1.f1, f.f3.f1.size ≤ 16384)
    (he : k68.R 68 w B (fun _ => True) (.slice Ae es.length ce) es) (hE : es.length ≤ 9223372036854775807) (hes : ∀ e ∈ es, e.f0.size ≤ 16384) (hB : B ≤ w.heap.size) :
    Calls Tryd.prog 17 #[.pointer (some ⟨g, 0, none⟩)] w fun e w' => e = .returned (.tuple #[]) ∧ Aside0 (0 < X0.length → MsgsAt w' B gm (X0.map (rM es))) ∧ Aside0 (Below B w w') ∧ Aside0 (ResFr w w') := by
  have HK := Aside0.mk hk
  have HM := Aside0.mk hm
  have HAP := Aside0.mk hap
  have HFF := Aside0.mk hF
  have HE := Aside0.mk he
  have HES := Aside0.mk hes
  have hmm := @run_makeMap Tryd.prog
  clear hk hm hap hF he hes
  go_enter Tryd.func17, Tryd.ntmps17
  go_upto_region 1 with fail
  change Code.wp _ _ _ _ (w.alloc (.map #[] 0))
  have hb1 : Below w.heap.size w (w.alloc (.map #[] 0)) := (Below.refl _ _).alloc (Nat.le_refl _) _
  have HEM1 : Aside0 (EMap (w.alloc (.map #[] 0)) w.heap.size []) := ⟨[], 0, ⟨heap_alloc_new w (.map #[] 0), List.Pairwise.nil, by simp, by simp, List.Pairwise.nil⟩, fun k => rfl⟩
  have HB1 := Aside0.mk hb1
  obtain ⟨mb, hmb⟩ : ∃ x, w.heap.size = x := ⟨_, rfl⟩
  obtain ⟨w1, hw1⟩ : ∃ x, w.alloc (.map #[] 0) = x := ⟨_, rfl⟩
  rw [hmb, hw1] at HEM1
  rw [hw1] at HB1 ⊢
  simp only [hmb]
  have HMB := Aside0.mk hmb
  clear hw1 hmb hb1
  have c2 : w1.cell? ⟨g, 2, none⟩ = some (.slice Ae es.length ce) := blk_cell ((HB1.out.block _ (blk_lt HK.out)).trans HK.out) 2
  go_wp2_with fail
  go_loopw [15] (fun u wr => ∃ j : Nat, u = .int .i64 (j : Int) ∧ j ≤ es.length ∧ Aside0 (EMap wr mb (es.take j)) ∧ Aside0 (Below w.heap.size w wr)) (fun u _ => es.length - (intOf u).toNat)
  case atStart => exact ⟨0, rfl, Nat.zero_le _, HEM1, HB1⟩
  case round =>
    obtain ⟨j, rfl, hj, HEM, HB⟩ := hrel
    by_cases hlt : j < es.length
    · have d1 : decide ((j : Int) < (es.length : Int)) = true := decide_eq_true (by omega)
      have d2 : decide (j < es.length) = true := decide_eq_true hlt
      have d3 : (j : Int) < (es.length : Int) := by omega
      obtain ⟨x, hx⟩ : ∃ x, es[j]? = some x := ⟨_, List.getElem?_eq_getElem hlt⟩
      have hr := Kd.R_below HE.out HB.out
      obtain ⟨A9, c9, e9, _, hC⟩ := Kd.R_reads hr
      injection e9 with e1 _ _
      subst e1
      obtain ⟨ad, had, _⟩ := hC.2.2 (by omega)
      subst had
      obtain ⟨g9, rfl⟩ := Kd.R_head hr
      obtain ⟨cs, _, hM, hcc⟩ := Kd.R_get hr x (j : Int) (by omega) (by omega)
      rw [Int.toNat_natCast] at hM hcc
      rw [List.getD_eq_getElem?_getD, hx, Option.getD_some] at hM
      obtain ⟨v1, rfl, h1⟩ := k68_openM hM
      obtain ⟨A1, c1, rfl⟩ := Kd.R_slice h1
      have a0 := hcc 0 _ rfl
      have a1 := hcc 1 _ rfl
      rw [add_at, Nat.zero_add] at a0 a1
      have a0' : wr.cell? ⟨g9, j * 2, none⟩ = some (.string x.f0) := a0
      have a1' : wr.cell? ⟨g9, j * 2 + 1, none⟩ = some (.slice A1 x.f1.length c1) := a1
      obtain ⟨n1, hn1⟩ : ∃ n, x.f1.length = n := ⟨_, rfl⟩
      rw [hn1] at a1'
      have hxs : okS x.f0 := by have := HES.out x (List.mem_of_getElem? hx); unfold okS; omega
      have hbA : Below wr.heap.size wr (wr.alloc (.cells #[.string x.f0, .slice A1 n1 c1] 68)) := (Below.refl _ _).alloc (Nat.le_refl _) _
      obtain ⟨L, cL, hL, hg⟩ := HEM.out.below hbA
      obtain ⟨w3, L', c', hup, hw3, hL', hg'⟩ := hL.update keyS Tryd.underlying83 x.f0 hxs true
      have hmbl : w.heap.size ≤ mb := Nat.le_of_eq HMB.out
      have HB3 : Aside0 (Below w.heap.size w w3) := ⟨by rw [hw3]; exact below_setBlock (HB.out.trans (hbA.mono HB.out.size)) hmbl _⟩
      have HEM3 : Aside0 (EMap w3 mb (es.take (j + 1))) := ⟨L', c', hL', fun k => by
        rw [hg' k, hg k, List.take_add_one, hx, Option.toList_some, inE_snoc]
        by_cases h9 : k = x.f0
        · subst h9; simp
        · rw [if_neg h9, decide_eq_false (fun e => h9 e.symm), Bool.or_false]⟩
      clear hx hr hC hM hcc a0 a1 h1 hbA hL hg hw3 hL' hg' hn1 hxs hmbl
      go_wp2_with fail
      go_roundw
      case rel => exact ⟨j + 1, by go_num, by omega, HEM3, HB3⟩
      case measure => simp [intOf]; omega
    · have d1 : decide ((j : Int) < (es.length : Int)) = false := decide_eq_false (by omega)
      have d2 : decide (j < es.length) = false := decide_eq_false hlt
      have HEM2 : Aside0 (EMap wr mb es) := ⟨by
        have h9 := HEM.out
        rw [List.take_of_length_le (by omega)] at h9
        exact h9⟩
      obtain ⟨w2, hw2⟩ : ∃ x, x = wr := ⟨_, rfl⟩
      subst hw2
      have cx : w2.cell? ⟨g, 1, none⟩ = some (.slice Am X0.length cm) := blk_cell ((HB.out.block _ (blk_lt HK.out)).trans HK.out) 1
      clear HEM HEM1 HB1 c2 hlt hj
      go_wp2_with fail
      go_loopw [28] (fun u wr => ∃ (i : Nat) (X : List Ms), u = .int .i64 (i : Int) ∧ i ≤ X0.length ∧ Aside0 (Upto es X0 X i) ∧ Aside0 (0 < X0.length → MsgsAt wr B gm X) ∧ Aside0 (EMap wr mb es) ∧ Aside0 (Below B w wr) ∧ Aside0 (ResFr w wr)) (fun u _ => X0.length - (intOf u).toNat)
      case atStart => exact ⟨0, X0, rfl, Nat.zero_le _, ⟨Upto.zero es X0⟩, ⟨fun h9 => (HM.out h9).2.step (MsgFr.of_below HB.out)⟩, HEM2, ⟨HB.out.mono hB⟩, ⟨ResFr.of_below HB.out⟩⟩
      case round =>
        obtain ⟨i, X, rfl, hi, HU, HMs, HEMr, HBr, HFr⟩ := hrel
        obtain ⟨wo, hwo⟩ : ∃ x, x = wr := ⟨_, rfl⟩
        subst hwo
        clear HEM2 HB cx
        by_cases hlt : i < X0.length
        · have d1 : decide ((i : Int) < (X0.length : Int)) = true := decide_eq_true (by omega)
          have d2 : decide (i < X0.length) = true := decide_eq_true hlt
          have d3 : (i : Int) < (X0.length : Int) := by omega
          have hA := (HM.out (by omega)).1
          subst hA
          obtain ⟨x0, hx0⟩ : ∃ x, X0[i]? = some x := ⟨_, List.getElem?_eq_getElem hlt⟩
          have hX0 := HU.out.el i x0 hx0
          rw [if_neg (Nat.lt_irrefl i)] at hX0
          have hms := HMs.out (by omega)
          obtain ⟨v1, v2, hma⟩ := hms.el i x0 hX0
          obtain ⟨A1, k1, rfl, _⟩ := Kd.Q_slice hma.q1
          obtain ⟨A2, k2, rfl, _⟩ := Kd.Q_slice hma.q2
          obtain ⟨n1, hn1⟩ : ∃ n, x0.1.f1.length = n := ⟨_, rfl⟩
          obtain ⟨n2, hn2⟩ : ∃ n, x0.1.f2.length = n := ⟨_, rfl⟩
          rw [hn1, hn2] at hma
          have a0 := hma.c0
          have a1 := hma.c1
          have a2 := hma.c2
          have hff := HFF.out x0 (List.mem_of_getElem? hx0)
          have HN1 := Aside0.mk hn1
          have HX0 := Aside0.mk hx0
          have HXI := Aside0.mk hX0
          have hn1l : n1 ≤ 9223372036854775807 := by rw [← hn1]; exact hff.1
          have HFT := Aside0.mk hff.2
          have hbA : Below wo.heap.size wo (wo.alloc (.cells #[.string x0.1.f0, .slice A1 n1 k1, .slice A2 n2 k2] 45)) := (Below.refl _ _).alloc (Nat.le_refl _) _
          have hk9 := heap_alloc_new wo (.cells #[.string x0.1.f0, .slice A1 n1 k1, .slice A2 n2 k2] 45)
          have hma2 := hma.step hms.blk (MsgFr.of_below hbA)
          have hms2 := hms.step (MsgFr.of_below hbA)
          have hem2 := HEMr.out.below hbA
          have hbB := HBr.out.trans (hbA.mono (Nat.le_trans hB HBr.out.size))
          have hfr2 := HFr.out.trans (ResFr.of_below hbA)
          have hgsB : B ≤ wo.heap.size := Nat.le_trans hB HBr.out.size
          clear hff hn1 hn2 hx0 hX0 hms hma
          go_upto_region 9 with fail
          change Code.wp _ _ _ _ (wo.alloc (.cells #[.string x0.1.f0, .slice A1 n1 k1, .slice A2 n2 k2] 45))
          obtain ⟨gs, hgs⟩ : ∃ x, wo.heap.size = x := ⟨_, rfl⟩
          obtain ⟨ws, hws⟩ : ∃ x, wo.alloc (.cells #[.string x0.1.f0, .slice A1 n1 k1, .slice A2 n2 k2] 45) = x := ⟨_, rfl⟩
          rw [hgs] at hk9 hgsB
          rw [hws] at hk9 hma2 hms2 hem2 hbB hfr2 ⊢
          simp only [hgs]
          have HKS := Aside0.mk hk9
          have HMA := Aside0.mk hma2
          have HMS := Aside0.mk hms2
          have HEM3 := Aside0.mk hem2
          have HB3 := Aside0.mk hbB
          have HFR3 := Aside0.mk hfr2
          have HGS := Aside0.mk hgs
          clear hws hgs hk9 hma2 hms2 hem2 hbB hfr2 hbA a0 a1 a2
          have b1 : ws.cell? ⟨gs, 1, none⟩ = some (.slice A1 n1 k1) := blk_cell HKS.out 1
          go_wp2_with fail
          go_loopw [35] (fun u wr => ∃ (j : Nat) (F : List S43), u = .int .i64 (j : Int) ∧ j ≤ n1 ∧ Aside0 (UptoF es x0.1.f1 F j) ∧ Aside0 (MsgsAt wr B gm (X.set i (⟨x0.1.f0, F, x0.1.f2⟩, x0.2.1, x0.2.2))) ∧ Aside0 (MsgAt wr B gm i (⟨x0.1.f0, F, x0.1.f2⟩, x0.2.1, x0.2.2) (.slice A1 n1 k1) (.slice A2 n2 k2)) ∧ Aside0 (EMap wr mb es) ∧ Aside0 (Below B w wr) ∧ Aside0 (ResFr w wr) ∧ Aside0 (wr.heap[gs]? = some (.cells #[.string x0.1.f0, .slice A1 n1 k1, .slice A2 n2 k2] 45 (0, 0)))) (fun u _ => n1 - (intOf u).toNat)
          case atStart =>
            refine ⟨0, x0.1.f1, rfl, Nat.zero_le _, ⟨UptoF.zero es _⟩, ⟨?_⟩, HMA, HEM3, HB3, HFR3, HKS⟩
            have h9 : X.set i x0 = X := by
              obtain ⟨hl9, he9⟩ := List.getElem?_eq_some_iff.1 HXI.out
              rw [← he9, List.set_getElem_self]
            have h8 : (((⟨x0.1.f0, x0.1.f1, x0.1.f2⟩ : S45), x0.2.1, x0.2.2) : Ms) = x0 := rfl
            rw [h8, h9]
            exact HMS.out
          case round =>
            obtain ⟨j, F, rfl, hj, HUF, HMS4, HMA4, HEM4, HB4, HFR4, HKS4⟩ := hrel
            clear HKS HMA HMS HEM3 HB3 HFR3 b1
            have b1 : wr.cell? ⟨gs, 1, none⟩ = some (.slice A1 n1 k1) := blk_cell HKS4.out 1
            by_cases hjl : j < n1
            · have e1 : decide ((j : Int) < (n1 : Int)) = true := decide_eq_true (by omega)
              have e2 : decide (j < n1) = true := decide_eq_true hjl
              have e3 : (j : Int) < (n1 : Int) := by omega
              obtain ⟨hnF, _, _⟩ := Kd.Q_reads' HMA4.out.q1
              obtain ⟨gf, o, cap, hv, _⟩ := Kd.Q_form HMA4.out.q1 (by rw [← hnF]; omega)
              injection hv with hv hv2 hv3
              clear hv2 hv3
              subst hv
              obtain ⟨f, hf⟩ : ∃ f, x0.1.f1[j]? = some f := ⟨_, List.getElem?_eq_getElem (by rw [HN1.out]; exact hjl)⟩
              have hFj := HUF.out.el j f hf
              rw [if_neg (Nat.lt_irrefl j)] at hFj
              obtain ⟨cs, hcs, hM, hcc, hfz⟩ := Kd.Q_elem HMA4.out.q1 f (j : Int) (by omega) (by omega)
              rw [Int.toNat_natCast] at hcc hM hfz
              rw [List.getD_eq_getElem?_getD] at hM
              have hM2 : k43.M wr B _ (F[j]?.getD f) cs := hM
              rw [hFj, Option.getD_some] at hM2
              have hcs2 := k43_openM hM2
              subst hcs2
              have k3 : wr.cell? ⟨gf, o + j * 5 + 3, none⟩ = some (.int .i64 f.f3.f0) := hcc 3 _ rfl
              have k4 : wr.cell? ⟨gf, o + j * 5 + 4, none⟩ = some (.string f.f3.f1) := hcc 4 _ rfl
              have k4' : wr.cell? ⟨gf, o + j * 5 + 3 + 1, none⟩ = some (.string f.f3.f1) := k4
              have z3 : wr.frozen? ⟨gf, o + j * 5 + 3, none⟩ = false := hfz 3
              have hft : okS f.f3.f1 := by have := HFT.out f (List.mem_of_getElem? hf); unfold okS; omega
              have HF9 := Aside0.mk hf
              have HFJ := Aside0.mk hFj
              clear hM hM2 hcc hcs hfz hf hFj hnF
              by_cases h7 : f.f3.f0 = 7
              · have e7 : (f.f3.f0 == 7) = true := beq_iff_eq.2 h7
                obtain ⟨L, cL, hL, hg⟩ := HEM4.out
                have hlk := hL.lookup1 keyS Tryd.underlying83 zeroBool f.f3.f1 hft
                rw [hg] at hlk
                cases hin : inE es f.f3.f1 with
                | true =>
                  rw [hin] at hlk
                  simp only [if_true, Option.map_some, Option.getD_some] at hlk
                  have hr1 : r1 es f = putK f 6 := by rw [r1, if_pos ⟨h7, hin⟩]
                  obtain ⟨hp1, hp2⟩ := HMS4.out.put (show (X.set i (⟨x0.1.f0, F, x0.1.f2⟩, x0.2.1, x0.2.2)).Pairwise _ from by
                    have hup := HU.out.pair HAP.out
                    rw [List.pairwise_iff_getElem] at hup ⊢
                    intro a b ha hb hab
                    rw [List.length_set] at ha hb
                    have h8 := hup a b ha hb hab
                    obtain ⟨hl9, he9⟩ := List.getElem?_eq_some_iff.1 HXI.out
                    rw [List.getElem_set, List.getElem_set]
                    split
                    · rename_i hia
                      subst hia
                      rw [if_neg (by omega)]
                      rw [he9] at h8
                      exact h8
                    · split
                      · rename_i hib
                        subst hib
                        rw [he9] at h8
                        exact h8
                      · exact h8) (i := i) (by rw [List.getElem?_set_self (List.getElem?_eq_some_iff.1 HXI.out).1]) HMA4.out HFJ.out 6
                  have hset : (X.set i (⟨x0.1.f0, F, x0.1.f2⟩, x0.2.1, x0.2.2)).set i (⟨x0.1.f0, F.set j (putK f 6), x0.1.f2⟩, x0.2.1, x0.2.2) = X.set i (⟨x0.1.f0, F.set j (putK f 6), x0.1.f2⟩, x0.2.1, x0.2.2) := by rw [List.set_set]
                  have hp1' : MsgsAt (wr.setCell ⟨gf, o + j * 5 + 3, none⟩ (.int .i64 6)) B gm (X.set i (⟨x0.1.f0, F.set j (putK f 6), x0.1.f2⟩, x0.2.1, x0.2.2)) := by rw [← hset]; exact hp1
                  obtain ⟨cgf, hcgf⟩ := Kd.Q_typed HMA4.out.q1 gf rfl
                  have hgfB : B ≤ gf := Kd.Q_base HMA4.out.q1 gf rfl
                  have hmbgf : mb ≠ gf := by
                    obtain ⟨c8, n8, h8⟩ := HEM4.out.isMap
                    intro e
                    rw [e, hcgf] at h8
                    cases h8
                  have HP1 := Aside0.mk hp1'
                  have HP2 := Aside0.mk hp2
                  have HEM5 : Aside0 (EMap (wr.setCell ⟨gf, o + j * 5 + 3, none⟩ (.int .i64 6)) mb es) := ⟨HEM4.out.of_heap (Below.heap_setCell _ _ _ _ hmbgf)⟩
                  have HB5 := Aside0.mk (HB4.out.setCell (p := ⟨gf, o + j * 5 + 3, none⟩) hgfB (.int .i64 6))
                  have HFR5 : Aside0 (ResFr w (wr.setCell ⟨gf, o + j * 5 + 3, none⟩ (.int .i64 6))) := ⟨HFR4.out.trans (fun k8 c8 t8 h8 ht8 => by
                    rw [Below.heap_setCell _ _ _ _ (fun e => ?_)]
                    · exact h8
                    · have e' : k8 = gf := e
                      rw [e', hcgf] at h8
                      injection h8 with h8
                      injection h8 with _ h8
                      exact ht8 h8.symm)⟩
                  have HKS5 := Aside0.mk (blk_far HKS4.out (p := ⟨gf, o + j * 5 + 3, none⟩) (blk_ne HKS4.out hcgf (by decide)) (.int .i64 6))
                  have HUF5 := Aside0.mk (HUF.out.put HF9.out hr1)
                  clear hL hg hp1 hp1' hp2 hset hcgf hgfB hmbgf hin hr1 h7
                  go_wp2_with fail
                  go_roundw
                  case rel => exact ⟨j + 1, F.set j (putK f 6), by go_num, by omega, HUF5, HP1, HP2, HEM5, HB5, HFR5, HKS5⟩
                  case measure => simp [intOf]; omega
                | false =>
                  rw [hin] at hlk
                  simp only [Bool.false_eq_true, if_false, Option.map_none, Option.getD_none] at hlk
                  have hr1 : r1 es f = f := by rw [r1, if_neg (fun h => by rw [hin] at h; exact absurd h.2 (by decide))]
                  have HUF5 := Aside0.mk (HUF.out.same HF9.out hr1)
                  clear hL hg hin hr1 h7
                  go_wp2_with fail
                  go_roundw
                  case rel => exact ⟨j + 1, F, by go_num, by omega, HUF5, HMS4, HMA4, HEM4, HB4, HFR4, HKS4⟩
                  case measure => simp [intOf]; omega
              · have e7 : (f.f3.f0 == 7) = false := beq_eq_false_iff_ne.2 h7
                have hr1 : r1 es f = f := by rw [r1, if_neg (fun h => h7 h.1)]
                have HUF5 := Aside0.mk (HUF.out.same HF9.out hr1)
                clear hr1 h7
                go_wp2_with fail
                go_roundw
                case rel => exact ⟨j + 1, F, by go_num, by omega, HUF5, HMS4, HMA4, HEM4, HB4, HFR4, HKS4⟩
                case measure => simp [intOf]; omega
            · have e1 : decide ((j : Int) < (n1 : Int)) = false := decide_eq_false (by omega)
              have e2 : decide (j < n1) = false := decide_eq_false hjl
              have hjn : j = x0.1.f1.length := by rw [HN1.out]; omega
              have HFA : Aside0 (F = x0.1.f1.map (r1 es)) := ⟨(hjn ▸ HUF.out : UptoF es x0.1.f1 F x0.1.f1.length).all⟩
              have HXN : Aside0 (Upto es X0 (X.set i (⟨x0.1.f0, F, x0.1.f2⟩, x0.2.1, x0.2.2)) (i + 1)) := ⟨by
                refine ⟨by rw [List.length_set]; exact HU.out.len, fun i' x' hx' => ?_⟩
                by_cases h2 : i' = i
                · subst h2
                  rw [HX0.out] at hx'
                  cases hx'
                  rw [List.getElem?_set_self (List.getElem?_eq_some_iff.1 HXI.out).1, if_pos (Nat.lt_succ_self _), rM, HFA.out]
                · rw [List.getElem?_set_ne (fun e => h2 e.symm), HU.out.el i' x' hx']
                  by_cases h1 : i' < i
                  · rw [if_pos h1, if_pos (by omega)]
                  · rw [if_neg h1, if_neg (by omega)]⟩
              have HMN : Aside0 (0 < X0.length → MsgsAt wr B gm (X.set i (⟨x0.1.f0, F, x0.1.f2⟩, x0.2.1, x0.2.2))) := ⟨fun _ => HMS4.out⟩
              clear hjn
              go_wp2_with fail
              go_roundw
              case rel => exact ⟨i + 1, _, by go_num, by omega, HXN, HMN, HEM4, HB4, HFR4⟩
              case measure => simp [intOf]; omega
        · have d1 : decide ((i : Int) < (X0.length : Int)) = false := decide_eq_false (by omega)
          have d2 : decide (i < X0.length) = false := decide_eq_false hlt
          have HUA : Aside0 (X = X0.map (rM es)) := ⟨((show i = X0.length by omega) ▸ HU.out : Upto es X0 X X0.length).all⟩
          have HMF : Aside0 (0 < X0.length → MsgsAt wo B gm (X0.map (rM es))) := ⟨by rw [← HUA.out]; exact HMs.out⟩
          go_wp2_with fail
          go_end0
          exact ⟨rfl, HMF, HBr, HFr⟩
end Go.Proofs.YtbfhglaaombglaaDoor

/- The parser: Parse. -/
namespace Go.Proofs.YtbfhglaaombglaaDoor
set_option linter.unusedVariables false
set_option linter.unusedSimpArgs false
open Go.RowKit Go.ChangeMaps Go.Proofs.YtbfhglaaombglaaDoorW.PrintWords Go.Proofs.YtbfhglaaombglaaDoorW.PrintMore Go.Proofs.YtbfhglaaombglaaDoor.PIdlParses

theorem results_cell3 {fn : Func} {p u u2 : Tmp} {ty : TypeId} (h : fn.results = #[.cell p ty, .tmp u, .tmp u2]) (tmps : Array Value) (P : Program) (w : World) :
    (results fn tmps).run P w =
      ((asAddr (tmps.getD p undef)).run P w).andThen fun a w₁ => ((loadVar ty a).run P w₁).andThen fun v w₂ => .ok (.tuple #[v, tmps.getD u undef, tmps.getD u2 undef]) w₂ := by
  simp only [results, h]
  simp [Sem.run_bind, Result.andThen]
theorem toks_len : ∀ k p u, u.length ≤ k → (toksA p u).1.length ≤ u.length := by
  intro k
  induction k with
  | zero =>
    intro p u h
    have : u = [] := List.eq_nil_of_length_eq_zero (by omega)
    subst this
    rw [toksA_nil]
    exact Nat.le_refl _
  | succ k ih =>
    intro p u h
    by_cases hu : u = []
    · subst hu; rw [toksA_nil]; exact Nat.le_refl _
    · cases hs : stepL u with
      | inl e => rw [toksA_err p u hu e hs]; exact Nat.zero_le _
      | inr q =>
        obtain ⟨kk, n⟩ := q
        obtain ⟨_, h2, h3⟩ := step_bound u hu kk n hs
        have h4 : (u.drop n).length = u.length - n := List.length_drop ..
        have h5 := ih (p + n) (u.drop n) (by omega)
        cases kk with
        | zero => rw [toksA_blank p u hu n hs]; omega
        | succ kk => rw [toksA_tok p u hu kk n hs]; simp only [List.length_cons]; omega
/-- The pieces, as the parser reads them. -/
theorem tokens_tk (s : ByteArray) (w : World) (hs : s.size ≤ 16384) (hT : Tabs w) (L : List (Nat × Nat × Nat)) (hR : Aside0 (toksA 0 (bs s) = (L, none))) :
    Calls Tryd.prog 15 #[.string s] w fun e w' => ∃ A c, e = .returned (.tuple #[.slice A (L.map (tkOf s)).length c, .int .i64 0, .int .i64 0]) ∧ Aside0 (TkRd w' A c (L.map (tkOf s))) ∧ Aside0 (Below w.heap.size w w') := by
  refine (tokens_run s w hs hT L none hR).mono ?_
  rintro e w' ⟨v, h1, h2, h3⟩
  have hll : L.length ≤ 20000 := by
    have := toks_len _ 0 (bs s) (Nat.le_refl _)
    rw [hR.out, bs_length] at this
    simp only at this
    omega
  obtain ⟨A, c, rfl, hr⟩ := toks_read h2.out
  have hc : L.length ≤ c ∧ c ≤ 9223372036854775807 := by
    obtain ⟨_, h9⟩ := h2.out
    rcases h9 with ⟨h8, h7⟩ | ⟨g, cap, cur, h8, _, hh, h6, hm, _⟩
    · injection h8 with _ a b
      rw [b, h7]
      omega
    · injection h8 with _ _ b
      subst b
      simp only [maxLen] at hm
      omega
  refine ⟨A, c, by rw [List.length_map]; exact h1, ⟨⟨by rw [List.length_map]; exact hc.1, by rw [List.length_map]; exact hll⟩, hc.2, fun t ht => ?_, fun hn => ?_⟩, h3⟩
  · obtain ⟨q, _, rfl⟩ := List.mem_map.1 ht
    show (s.extract q.2.1 (q.2.1 + q.2.2)).size ≤ 16384
    rw [ByteArray.size_extract]
    omega
  · rw [List.length_map] at hn
    obtain ⟨g, rfl, hcc⟩ := hr.2 hn
    refine ⟨g, 0, rfl, fun j t hj => ?_⟩
    rw [List.getElem?_map] at hj
    obtain ⟨q, hq, rfl⟩ := Option.map_eq_some_iff.1 hj
    have := hcc j q hq
    rw [Nat.zero_add]
    exact this
/-- A schema's value, read. -/
def ScRd (w : World) (x : Sc) (v1 v2 v3 : Value) : Prop :=
  ∃ A1 c1 A2 c2 A3 c3, v1 = .slice A1 (x.msgs.map gS).length c1 ∧ (x.msgs.map gS).length ≤ c1 ∧ k45.C w A1 (x.msgs.map gS).length (x.msgs.map gS) ∧
    v2 = .slice A2 (x.enums.map eS).length c2 ∧ (x.enums.map eS).length ≤ c2 ∧ k68.C w A2 (x.enums.map eS).length (x.enums.map eS) ∧
    v3 = .slice A3 (x.meths.map mS).length c3 ∧ (x.meths.map mS).length ≤ c3 ∧ k72.C w A3 (x.meths.map mS).length (x.meths.map mS)
theorem ScRd.nil (w : World) : ScRd w Sc.nil (.slice none 0 0) (.slice none 0 0) (.slice none 0 0) :=
  ⟨none, 0, none, 0, none, 0, rfl, Nat.le_refl _, ⟨rfl, by decide, fun h => absurd h (by decide)⟩, rfl, Nat.le_refl _, ⟨rfl, by decide, fun h => absurd h (by decide)⟩, rfl, Nat.le_refl _, ⟨rfl, by decide, fun h => absurd h (by decide)⟩⟩
theorem ScRd.below {w w1 : World} {x : Sc} {v1 v2 v3 : Value} (h : ScRd w x v1 v2 v3) (hb : Below w.heap.size w w1) : ScRd w1 x v1 v2 v3 := by
  obtain ⟨A1, c1, A2, c2, A3, c3, h1, h2, h3, h4, h5, h6, h7, h8, h9⟩ := h
  exact ⟨A1, c1, A2, c2, A3, c3, h1, h2, Kd.C_below h3 hb, h4, h5, Kd.C_below h6 hb, h7, h8, Kd.C_below h9 hb⟩
/-- What resolve makes of the rows is the resolved schema. -/
theorem inE_any (es : List En) (k : ByteArray) : inE (es.map eS) k = es.any (fun e => teq e.name k) := by
  rw [inE, List.any_map]
  congr 1
  funext e
  show decide (e.name = k) = teq e.name k
  rw [teq]
  by_cases h : e.name = k
  · rw [decide_eq_true h, decide_eq_true (by rw [h])]
  · rw [decide_eq_false h, decide_eq_false (fun h2 => h (bs_inj h2))]
theorem r1_fS (es : List En) (f : Fd) : r1 (es.map eS) (fS f) = fS (resK es f) := by
  unfold r1 resK
  rw [inE_any]
  have e2 : (fS f).f3.f1 = f.tname := rfl
  by_cases h : kk7 f.kind = 7
  · have h' : (fS f).f3.f0 = 7 := by show ((kk7 f.kind : Nat) : Int) = 7; omega
    rw [if_pos h]
    by_cases h2 : es.any (fun e => teq e.name f.tname) = true
    · rw [if_pos ⟨h', h2⟩, if_pos h2]; rfl
    · rw [if_neg (fun h3 => h2 h3.2), if_neg h2]
      unfold fS
      rw [h]
      rfl
  · have h' : ¬ (fS f).f3.f0 = 7 := fun h9 => h (by have h8 : ((kk7 f.kind : Nat) : Int) = 7 := h9; omega)
    rw [if_neg (fun h3 => h' h3.1), if_neg h]
theorem step_err (u : List Nat) (e : Nat) (h : stepL u = .inl e) : e = 9 ∨ e = 5 := by
  unfold stepL at h
  repeat' split at h
  all_goals first | (injection h with h; omega) | cases h
/-- Four values stored into a block. -/
def put4 (w : World) (g : Nat) (v0 v1 v2 v3 : Value) : World := (((w.setCell ⟨g, 0, none⟩ v0).setCell ⟨g, 1, none⟩ v1).setCell ⟨g, 2, none⟩ v2).setCell ⟨g, 3, none⟩ v3
theorem put4_blk {w : World} {g : Nat} {t : TypeId} {a0 a1 a2 a3 : Value} (h : w.heap[g]? = some (.cells #[a0, a1, a2, a3] t (0, 0))) (v0 v1 v2 v3 : Value) : (put4 w g v0 v1 v2 v3).heap[g]? = some (.cells #[v0, v1, v2, v3] t (0, 0)) := by
  have := blk_set (blk_set (blk_set (blk_set h 0 v0) 1 v1) 2 v2) 3 v3
  simp only [List.setIfInBounds_toArray, List.set_cons_zero, List.set_cons_succ] at this
  exact this
theorem put4_below {B : Nat} {a w : World} (h : Below B a w) {g : Nat} (hg : B ≤ g) (v0 v1 v2 v3 : Value) : Below B a (put4 w g v0 v1 v2 v3) :=
  (((h.setCell (p := ⟨g, 0, none⟩) hg v0).setCell (p := ⟨g, 1, none⟩) hg v1).setCell (p := ⟨g, 2, none⟩) hg v2).setCell (p := ⟨g, 3, none⟩) hg v3
theorem put4_far {w : World} {g : Nat} (v0 v1 v2 v3 : Value) {k : Nat} (hk : k ≠ g) : (put4 w g v0 v1 v2 v3).heap[k]? = w.heap[k]? := by
  unfold put4
  rw [Below.heap_setCell _ _ _ _ hk, Below.heap_setCell _ _ _ _ hk, Below.heap_setCell _ _ _ _ hk, Below.heap_setCell _ _ _ _ hk]
theorem rM_gS (x : Sc) (xm : List Ms) (h : xm.map (·.1) = x.msgs.map gS) : (xm.map (rM (x.enums.map eS))).map (·.1) = (resolveS x).msgs.map gS := by
  have h1 : (xm.map (rM (x.enums.map eS))).map (·.1) = (xm.map (·.1)).map (fun m => (⟨m.f0, m.f1.map (r1 (x.enums.map eS)), m.f2⟩ : S45)) := by
    rw [List.map_map, List.map_map]; rfl
  rw [h1, h, resolveS, List.map_map, List.map_map]
  apply List.map_congr_left
  intro m _
  show (⟨m.name, (m.fields.map fS).map (r1 (x.enums.map eS)), nums_ m.res⟩ : S45) = ⟨m.name, (m.fields.map (resK x.enums)).map fS, nums_ m.res⟩
  rw [List.map_map, List.map_map]
  congr 1
  apply List.map_congr_left
  intro f _
  exact r1_fS x.enums f
theorem put4_cell {w : World} {g : Nat} (v0 v1 v2 v3 : Value) {k : Nat} (hk : k ≠ g) (o : Nat) : (put4 w g v0 v1 v2 v3).cell? ⟨k, o, none⟩ = w.cell? ⟨k, o, none⟩ := World.cell?_of_block (put4_far v0 v1 v2 v3 hk)
theorem row_res {α : Type} {d : Kd α} {e : TypeId} {w w1 : World} {B : Nat} {v : Value} {xs : List α} (h : d.R e w B (fun _ => True) v xs) (hf : ResFr w w1) (ht : ∀ q, q ∈ e :: d.E → q ≠ 43) : d.R e w1 B (fun _ => True) v xs := by
  refine Kd.R_mono (Kd.R_step (Kd.R_bound h) (fun k hk _ => ?_)) (fun _ _ => trivial)
  obtain ⟨_, _, _, q, hq, c, hc⟩ := hk
  rw [hc]
  exact hf k c q hc (ht q hq)
theorem row_put4 {α : Type} {d : Kd α} {e : TypeId} {w : World} {B g t : Nat} {cells : Array Value} {v : Value} {xs : List α} (h : d.R e w B (fun _ => True) v xs) (hk : w.heap[g]? = some (.cells cells t (0, 0))) (ht : ∀ q, q ∈ e :: d.E → q ≠ t) (v0 v1 v2 v3 : Value) : d.R e (put4 w g v0 v1 v2 v3) B (fun _ => True) v xs :=
  Kd.R_mono (Kd.R_step (Kd.R_types h hk ht) (fun k h9 _ => put4_far v0 v1 v2 v3 h9.2)) (fun _ _ => trivial)
/-- The rows behind resolve are the resolved schema's. -/
theorem scrd_mk {w : World} {B gm : Nat} {X x : Sc} {xm : List Ms} {xe : List S68} {xt : List S72} {Am Ae At : Option Addr} {cm ce ct : Nat} (hx : resolveS X = x) (hr : ScRows X xm xe xt)
    (hm : 0 < xm.length → Am = some ⟨gm, 0, none⟩ ∧ MsgsAt w B gm (xm.map (rM xe))) (hl : xm.length ≤ cm ∧ xm.length ≤ 9223372036854775807)
    (he : k68.R 68 w B (fun _ => True) (.slice Ae xe.length ce) xe) (ht : k72.R 72 w B (fun _ => True) (.slice At xt.length ct) xt) :
    ScRd w x (.slice Am xm.length cm) (.slice Ae xe.length ce) (.slice At xt.length ct) := by
  subst hx
  have e1 : (xm.map (rM xe)).map (·.1) = (resolveS X).msgs.map gS := by rw [hr.es]; exact rM_gS X xm hr.ms
  have l1 : ((resolveS X).msgs.map gS).length = xm.length := by rw [← e1, List.length_map, List.length_map]
  have e2 : (resolveS X).enums.map eS = xe := hr.es.symm
  have e3 : (resolveS X).meths.map mS = xt := hr.ts.symm
  obtain ⟨_, le, re⟩ := Kd.R_reads' he
  obtain ⟨_, lt, rt⟩ := Kd.R_reads' ht
  refine ⟨Am, cm, Ae, ce, At, ct, by rw [l1], by rw [l1]; exact hl.1, ?_, by rw [e2], by rw [e2]; exact le, by rw [e2]; exact re, by rw [e3], by rw [e3]; exact lt, by rw [e3]; exact rt⟩
  by_cases h0 : 0 < xm.length
  · obtain ⟨rfl, h⟩ := hm h0
    have h9 := h.reads (by rw [List.length_map]; exact hl.2)
    rw [e1] at h9
    exact h9
  · have hz : (resolveS X).msgs.map gS = [] := List.eq_nil_of_length_eq_zero (by rw [l1]; omega)
    rw [hz]
    exact ⟨rfl, by decide, fun h => absurd h (by decide)⟩
/-- All blocks but schemas' own stay. -/
def FrS (w W : World) : Prop := ∀ (k : Nat) (c : Array Value) (t : TypeId), w.heap[k]? = some (.cells c t (0, 0)) → t ≠ 27 → W.heap[k]? = some (.cells c t (0, 0))
theorem FrS.refl (w : World) : FrS w w := fun _ _ _ h _ => h
theorem FrS.below {w W W2 : World} (h : FrS w W) (hb : Below W.heap.size W W2) : FrS w W2 := fun k c t hk ht => (hb.block k (blk_lt (h k c t hk ht))).trans (h k c t hk ht)
theorem row_frs {α : Type} {d : Kd α} {e B : Nat} {w W : World} {ok : Nat → Prop} {v : Value} {xs : List α} (h : d.R e w B ok v xs) (hF : FrS w W) (hE : ∀ q, q ∈ e :: d.E → q ≠ 27) : d.R e W B ok v xs := by
  refine Kd.R_mono (Kd.R_move (Kd.R_bound h) (fun k hk => ?_)) (fun _ hk => hk.1)
  obtain ⟨_, _, _, q, hq, c, hc⟩ := hk
  rw [hc]
  exact hF k c q hc (hE q hq)
/-- A schema, as it is read in whatever world has its rows. -/
def ScAll (w : World) (x : Sc) (v1 v2 v3 : Value) : Prop := ∀ W, FrS w W → ScRd W x v1 v2 v3
theorem ScAll.nil (w : World) : ScAll w Sc.nil (.slice none 0 0) (.slice none 0 0) (.slice none 0 0) := fun W _ => ScRd.nil W
theorem scrd_all {w : World} {B gm : Nat} {X x : Sc} {xm : List Ms} {xe : List S68} {xt : List S72} {Am Ae At : Option Addr} {cm ce ct : Nat} (hx : resolveS X = x) (hr : ScRows X xm xe xt)
    (hm : 0 < xm.length → Am = some ⟨gm, 0, none⟩ ∧ MsgsAt w B gm (xm.map (rM xe))) (hl : xm.length ≤ cm ∧ xm.length ≤ 9223372036854775807)
    (he : k68.R 68 w B (fun _ => True) (.slice Ae xe.length ce) xe) (ht : k72.R 72 w B (fun _ => True) (.slice At xt.length ct) xt) :
    ScAll w x (.slice Am xm.length cm) (.slice Ae xe.length ce) (.slice At xt.length ct) := fun W hF =>
  scrd_mk hx hr (fun h9 => ⟨(hm h9).1, (hm h9).2.step (fun k c t hk ht => hF k c t hk (by rcases ht with rfl | rfl | rfl <;> decide))⟩) hl (row_frs he hF (by decide)) (row_frs ht hF (by decide))
set_option maxRecDepth 100000 in
set_option maxHeartbeats 4000000 in
theorem parse_any (s : ByteArray) (w : World) (hs : s.size ≤ 140737488351232) (hT : Tabs w) (x : Sc) (at_ er : Nat) (hP : Aside0 (parseF s = (x, at_, er))) :
    Calls Tryd.prog 10 #[.string s] w fun e w' => ∃ v1 v2 v3, e = .returned (.tuple #[.agg #[.string x.name, v1, v2, v3], .int .i64 (at_ : Int), .int .i64 (er : Int)]) ∧ Aside0 (ScAll w' x v1 v2 v3) ∧ Aside0 (Below w.heap.size w w') := by
  have hbA : Below w.heap.size w (w.alloc (.cells #[.string ⟨#[]⟩, .slice none 0 0, .slice none 0 0, .slice none 0 0] 27)) := (Below.refl _ _).alloc (Nat.le_refl _) _
  have HKR := Aside0.mk (heap_alloc_new w (.cells #[.string ⟨#[]⟩, .slice none 0 0, .slice none 0 0, .slice none 0 0] 27))
  have HBA := Aside0.mk hbA
  have HT := Aside0.mk (tabs_below hT hbA)
  clear hbA hT
  go_enter Tryd.func10, Tryd.ntmps10
  go_upto_region 1 with fail
  change Code.wp _ _ _ _ (w.alloc (.cells #[.string ⟨#[]⟩, .slice none 0 0, .slice none 0 0, .slice none 0 0] 27))
  obtain ⟨gR, hgR⟩ : ∃ x, w.heap.size = x := ⟨_, rfl⟩
  obtain ⟨wa, hwa⟩ : ∃ x, w.alloc (.cells #[.string ⟨#[]⟩, .slice none 0 0, .slice none 0 0, .slice none 0 0] 27) = x := ⟨_, rfl⟩
  rw [hgR, hwa] at HKR
  rw [hwa] at HBA HT ⊢
  simp only [hgR]
  have HGR : Aside0 (w.heap.size ≤ gR) := ⟨Nat.le_of_eq hgR⟩
  clear hwa hgR
  by_cases hbig : 16384 < s.size
  · have hP2 := hP.out
    rw [parseF, if_pos hbig] at hP2
    obtain ⟨rfl, hP3⟩ := Prod.mk.inj hP2
    obtain ⟨rfl, rfl⟩ := Prod.mk.inj hP3
    clear hP2 hP3
    have z0 : wa.cell? ⟨gR, 0, none⟩ = some (.string ⟨#[]⟩) := blk_cell HKR.out 0
    have z1 : wa.cell? ⟨gR, 1, none⟩ = some (.slice none 0 0) := blk_cell HKR.out 1
    have z2 : wa.cell? ⟨gR, 2, none⟩ = some (.slice none 0 0) := blk_cell HKR.out 2
    have z3 : wa.cell? ⟨gR, 3, none⟩ = some (.slice none 0 0) := blk_cell HKR.out 3
    have hfz := fun i => blk_frozen HKR.out i
    go_wp2_with fail
    refine (tokens_big s wa hbig).mono ?_
    rintro e w' ⟨rfl, rfl⟩
    go_wp2_with fail
    change bodyPost _ _ _ _ _ (put4 wa gR (.string ⟨#[]⟩) (.slice none 0 0) (.slice none 0 0) (.slice none 0 0))
    have hk8 := put4_blk HKR.out (.string ⟨#[]⟩) (.slice none 0 0) (.slice none 0 0) (.slice none 0 0)
    have hb8 := put4_below HBA.out HGR.out (.string ⟨#[]⟩) (.slice none 0 0) (.slice none 0 0) (.slice none 0 0)
    obtain ⟨w8, hw8⟩ : ∃ x, put4 wa gR (.string ⟨#[]⟩) (.slice none 0 0) (.slice none 0 0) (.slice none 0 0) = x := ⟨_, rfl⟩
    rw [hw8] at hk8 hb8 ⊢
    clear hw8 z0 z1 z2 z3 hfz
    have z0 : w8.cell? ⟨gR, 0, none⟩ = some (.string ⟨#[]⟩) := blk_cell hk8 0
    have z1 : w8.cell? ⟨gR, 1, none⟩ = some (.slice none 0 0) := blk_cell hk8 1
    have z2 : w8.cell? ⟨gR, 2, none⟩ = some (.slice none 0 0) := blk_cell hk8 2
    have z3 : w8.cell? ⟨gR, 3, none⟩ = some (.slice none 0 0) := blk_cell hk8 3
    refine bodyPost_ret (v := .tuple #[.agg #[.string ⟨#[]⟩, .slice none 0 0, .slice none 0 0, .slice none 0 0], .int .i64 0, .int .i64 4]) ?_ rfl ?_
    · rw [results_cell3 rfl]
      go_simp
      first | rfl | done
    · exact ⟨_, _, _, rfl, ⟨ScAll.nil _⟩, ⟨hb8⟩⟩
  · have hs16 : s.size ≤ 16384 := by omega
    obtain ⟨L, E, hLE⟩ : ∃ L E, toksA 0 (bs s) = (L, E) := ⟨_, _, rfl⟩
    have hP2 := hP.out
    rw [parseF, if_neg hbig, hLE] at hP2
    cases E with
    | some ae =>
      obtain ⟨a, e⟩ := ae
      simp only at hP2
      obtain ⟨rfl, hP3⟩ := Prod.mk.inj hP2
      obtain ⟨rfl, rfl⟩ := Prod.mk.inj hP3
      have he0 : ((e : Int) != 0) = true := by
        obtain ⟨v, _, _, hv⟩ := (toks_steps _ 0 (bs s) (Nat.le_refl _)).2 L a e hLE
        have := step_err v e hv
        rw [bne_iff_ne]; omega
      have HLE := Aside0.mk hLE
      clear hP2 hP3 hLE hbig
      go_wp2_with fail
      refine (tokens_err s wa hs16 HT.out L a e HLE).mono ?_
      rintro e9 wb ⟨rfl, hb9⟩
      have HKB := Aside0.mk ((hb9.out.block _ (blk_lt HKR.out)).trans HKR.out)
      have HBB := Aside0.mk (HBA.out.trans (hb9.out.mono HBA.out.size))
      clear hb9
      have z0 : wb.cell? ⟨gR, 0, none⟩ = some (.string ⟨#[]⟩) := blk_cell HKB.out 0
      have z1 : wb.cell? ⟨gR, 1, none⟩ = some (.slice none 0 0) := blk_cell HKB.out 1
      have z2 : wb.cell? ⟨gR, 2, none⟩ = some (.slice none 0 0) := blk_cell HKB.out 2
      have z3 : wb.cell? ⟨gR, 3, none⟩ = some (.slice none 0 0) := blk_cell HKB.out 3
      have hfz := fun i => blk_frozen HKB.out i
      go_wp2_with fail
      change bodyPost _ _ _ _ _ (put4 wb gR (.string ⟨#[]⟩) (.slice none 0 0) (.slice none 0 0) (.slice none 0 0))
      have hk8 := put4_blk HKB.out (.string ⟨#[]⟩) (.slice none 0 0) (.slice none 0 0) (.slice none 0 0)
      have hb8 := put4_below HBB.out HGR.out (.string ⟨#[]⟩) (.slice none 0 0) (.slice none 0 0) (.slice none 0 0)
      obtain ⟨w8, hw8⟩ : ∃ x, put4 wb gR (.string ⟨#[]⟩) (.slice none 0 0) (.slice none 0 0) (.slice none 0 0) = x := ⟨_, rfl⟩
      rw [hw8] at hk8 hb8 ⊢
      clear hw8 z0 z1 z2 z3 hfz
      have z0 : w8.cell? ⟨gR, 0, none⟩ = some (.string ⟨#[]⟩) := blk_cell hk8 0
      have z1 : w8.cell? ⟨gR, 1, none⟩ = some (.slice none 0 0) := blk_cell hk8 1
      have z2 : w8.cell? ⟨gR, 2, none⟩ = some (.slice none 0 0) := blk_cell hk8 2
      have z3 : w8.cell? ⟨gR, 3, none⟩ = some (.slice none 0 0) := blk_cell hk8 3
      refine bodyPost_ret (v := .tuple #[.agg #[.string ⟨#[]⟩, .slice none 0 0, .slice none 0 0, .slice none 0 0], .int .i64 (a : Int), .int .i64 (e : Int)]) ?_ rfl ?_
      · rw [results_cell3 rfl]
        go_simp
        first | rfl | done
      · exact ⟨_, _, _, rfl, ⟨ScAll.nil _⟩, ⟨hb8⟩⟩
    | none =>
      simp only at hP2
      have HLE := Aside0.mk hLE
      have HPT := Aside0.mk hP2
      clear hP2 hLE hbig hP
      go_wp2_with fail
      refine (tokens_tk s wa hs16 HT.out L HLE).mono ?_
      rintro e wb ⟨A, c, rfl, HTK, hb9⟩
      have HKB := Aside0.mk ((hb9.out.block _ (blk_lt HKR.out)).trans HKR.out)
      have HBB := Aside0.mk (HBA.out.trans (hb9.out.mono HBA.out.size))
      have HTB := Aside0.mk (tabs_below HT.out hb9.out)
      clear hb9 HKR HBA HT
      obtain ⟨l, hl⟩ : ∃ l, L.map (tkOf s) = l := ⟨_, rfl⟩
      rw [hl] at HTK HPT
      simp only [hl]
      obtain ⟨nl, hnl⟩ : ∃ n, l.length = n := ⟨_, rfl⟩
      have HST : Aside0 (StOk (l, false)) := ⟨HTK.out.2.2.1⟩
      have hbP : Below wb.heap.size wb (wb.alloc (.cells #[.slice A nl c, .bool false] 54)) := (Below.refl _ _).alloc (Nat.le_refl _) _
      have hkP := heap_alloc_new wb (.cells #[.slice A nl c, .bool false] 54)
      have hps : PS wb (wb.alloc (.cells #[.slice A nl c, .bool false] 54)) wb.heap.size (l, false) := ⟨⟨A, c, by rw [hkP]; simp only [hnl], HTK.out⟩, HTB.out, hbP, Nat.le_refl _⟩
      have hkb2 := (hbP.block _ (blk_lt HKB.out)).trans HKB.out
      have hbb2 := HBB.out.trans (hbP.mono HBB.out.size)
      have hgRp : gR ≠ wb.heap.size := fun e => by have := blk_lt HKB.out; omega
      simp only [hnl]
      clear hl hnl
      go_upto_region 5 with fail
      change Code.wp _ _ _ _ (wb.alloc (.cells #[.slice A nl c, .bool false] 54))
      obtain ⟨p, hp⟩ : ∃ x, wb.heap.size = x := ⟨_, rfl⟩
      obtain ⟨w1, hw1⟩ : ∃ x, wb.alloc (.cells #[.slice A nl c, .bool false] 54) = x := ⟨_, rfl⟩
      rw [hw1, hp] at hps
      rw [hw1] at hkb2 hbb2 ⊢
      rw [hp] at hgRp
      simp only [hp]
      have HPS := Aside0.mk hps
      have HK1 := Aside0.mk hkb2
      have HB1 := Aside0.mk hbb2
      have HNP := Aside0.mk hgRp
      have HPW : Aside0 (w.heap.size ≤ p) := ⟨by rw [← hp]; exact HBB.out.size⟩
      clear hw1 hp hps hkb2 hbb2 hbP hkP hgRp HKB HBB HTB HTK
      obtain ⟨X, S6, hX⟩ : ∃ a b, schemaS (l, false) = (a, b) := ⟨_, _, rfl⟩
      have HOKX : Aside0 (ScOk X) := ⟨by have h9 := schema_ok HST.out; rw [hX] at h9; exact h9⟩
      have hP2 := HPT.out
      rw [parseT, hX] at hP2
      have HX := Aside0.mk hX
      clear hX HPT
      go_wp2_with fail
      refine (schema_any wb w1 p (l, false) HPS X S6 HX).mono ?_
      rintro e w2 ⟨Am, cm, Ae, ce, At, ct, xm, xe, xt, rfl, HSR, HM, HE, HTT, HP2, HG2⟩
      have HK2 := Aside0.mk (grown_block HG2.out HK1.out HNP.out)
      have HB2 := Aside0.mk (HB1.out.grown HG2.out HB1.out.size (fun k hk => by injection hk with hk; rw [← hk]; exact HPW.out))
      have hbw1 : w1.heap.size ≤ w2.heap.size := HG2.out.size
      obtain ⟨B, hB⟩ : ∃ x, w1.heap.size = x := ⟨_, rfl⟩
      rw [hB] at HM HE HTT hbw1
      have HBW : Aside0 (w.heap.size ≤ B) := ⟨by rw [← hB]; exact HB1.out.size⟩
      have HRB : Aside0 (gR < B) := ⟨by rw [← hB]; exact blk_lt HK1.out⟩
      clear hB HK1 HB1
      -- x
      have hbX : Below w2.heap.size w2 (w2.alloc (.cells #[.string X.name, .slice Am xm.length cm, .slice Ae xe.length ce, .slice At xt.length ct] 27)) := (Below.refl _ _).alloc (Nat.le_refl _) _
      have hkX := heap_alloc_new w2 (.cells #[.string X.name, .slice Am xm.length cm, .slice Ae xe.length ce, .slice At xt.length ct] 27)
      have HP3 := Aside0.mk (HP2.out.below hbX)
      have HK3 := Aside0.mk ((hbX.block _ (blk_lt HK2.out)).trans HK2.out)
      have HB3 := Aside0.mk (HB2.out.trans (hbX.mono HB2.out.size))
      have HM3 := Aside0.mk (Kd.R_below HM.out hbX)
      have HE3 := Aside0.mk (Kd.R_below HE.out hbX)
      have HT3 := Aside0.mk (Kd.R_below HTT.out hbX)
      have hnx : gR ≠ w2.heap.size := fun e => by have := blk_lt HK2.out; omega
      have hBx : B ≤ (w2.alloc (.cells #[.string X.name, .slice Am xm.length cm, .slice Ae xe.length ce, .slice At xt.length ct] 27)).heap.size := Nat.le_trans hbw1 hbX.size
      go_upto_region 6 with fail
      change Code.wp _ _ _ _ (w2.alloc (.cells #[.string X.name, .slice Am xm.length cm, .slice Ae xe.length ce, .slice At xt.length ct] 27))
      obtain ⟨gx, hgx⟩ : ∃ x, w2.heap.size = x := ⟨_, rfl⟩
      obtain ⟨w3, hw3⟩ : ∃ x, w2.alloc (.cells #[.string X.name, .slice Am xm.length cm, .slice Ae xe.length ce, .slice At xt.length ct] 27) = x := ⟨_, rfl⟩
      rw [hgx] at hkX hnx
      rw [hw3] at HP3 HK3 HB3 HM3 HE3 HT3 hkX hBx ⊢
      simp only [hgx]
      have HKX := Aside0.mk hkX
      have HNX := Aside0.mk hnx
      clear hw3 hgx hkX hnx hbX HM HE HTT HP2 HG2 HK2 HB2 hbw1
      obtain ⟨l6, b6⟩ := S6
      simp only at hP2
      cases b6 with
      | true =>
        simp only [if_true] at hP2
        obtain ⟨rfl, hP3⟩ := Prod.mk.inj hP2
        obtain ⟨hat, rfl⟩ := Prod.mk.inj hP3
        clear hP2 hP3
        have z0 : w3.cell? ⟨gR, 0, none⟩ = some (.string ⟨#[]⟩) := blk_cell HK3.out 0
        have z1 : w3.cell? ⟨gR, 1, none⟩ = some (.slice none 0 0) := blk_cell HK3.out 1
        have z2 : w3.cell? ⟨gR, 2, none⟩ = some (.slice none 0 0) := blk_cell HK3.out 2
        have z3 : w3.cell? ⟨gR, 3, none⟩ = some (.slice none 0 0) := blk_cell HK3.out 3
        have hfz := fun i => blk_frozen HK3.out i
        cases l6 with
        | nil =>
          simp only at hat
          subst hat
          obtain ⟨A8, c8, hk8⟩ := HP3.out.emp
          have q0 : w3.cell? ⟨p, 0, none⟩ = some (.slice A8 0 c8) := blk_cell hk8 0
          have q1 : w3.cell? ⟨p, 1, none⟩ = some (.bool true) := blk_cell hk8 1
          clear hk8
          go_wp2_with fail
          change bodyPost _ _ _ _ _ (put4 w3 gR (.string ⟨#[]⟩) (.slice none 0 0) (.slice none 0 0) (.slice none 0 0))
          have hk8 := put4_blk HK3.out (.string ⟨#[]⟩) (.slice none 0 0) (.slice none 0 0) (.slice none 0 0)
          have hb8 := put4_below HB3.out HGR.out (.string ⟨#[]⟩) (.slice none 0 0) (.slice none 0 0) (.slice none 0 0)
          obtain ⟨w8, hw8⟩ : ∃ x, put4 w3 gR (.string ⟨#[]⟩) (.slice none 0 0) (.slice none 0 0) (.slice none 0 0) = x := ⟨_, rfl⟩
          rw [hw8] at hk8 hb8 ⊢
          clear hw8 z0 z1 z2 z3 hfz
          have z0 : w8.cell? ⟨gR, 0, none⟩ = some (.string ⟨#[]⟩) := blk_cell hk8 0
          have z1 : w8.cell? ⟨gR, 1, none⟩ = some (.slice none 0 0) := blk_cell hk8 1
          have z2 : w8.cell? ⟨gR, 2, none⟩ = some (.slice none 0 0) := blk_cell hk8 2
          have z3 : w8.cell? ⟨gR, 3, none⟩ = some (.slice none 0 0) := blk_cell hk8 3
          refine bodyPost_ret (v := .tuple #[.agg #[.string ⟨#[]⟩, .slice none 0 0, .slice none 0 0, .slice none 0 0], .int .i64 (s.size : Int), .int .i64 5]) ?_ rfl ?_
          · rw [results_cell3 rfl]
            go_simp
            first | rfl | done
          · exact ⟨_, _, _, rfl, ⟨ScAll.nil _⟩, ⟨hb8⟩⟩
        | cons k l6 =>
          simp only at hat
          subst hat
          obtain ⟨g8, o8, c8, hk8, _, _, hlc, hcm, _, _, a3⟩ := HP3.out.head
          obtain ⟨n8, hn8⟩ : ∃ n, l6.length + 1 = n := ⟨_, rfl⟩
          rw [hn8] at hk8 hlc
          have hn0 : 0 < n8 := by omega
          have hn1 : (0 : Int) < (n8 : Int) := by omega
          have d1 : decide ((0 : Int) < (n8 : Int)) = true := decide_eq_true hn1
          have d2 : decide (0 < n8) = true := decide_eq_true hn0
          have q0 : w3.cell? ⟨p, 0, none⟩ = some (.slice (some ⟨g8, o8, none⟩) n8 c8) := blk_cell hk8 0
          have q1 : w3.cell? ⟨p, 1, none⟩ = some (.bool true) := blk_cell hk8 1
          have q0d : w3.drew.cell? ⟨p, 0, none⟩ = some (.slice (some ⟨g8, o8, none⟩) n8 c8) := q0
          have a3d : w3.drew.cell? ⟨g8, o8 + 2, none⟩ = some (.int .i64 (k.at_ : Int)) := a3
          clear hk8 hn8 hlc hcm
          have hg8 : g8 ≠ gR := by
            intro e
            have h9 := blk_cell HK3.out (o8 + 2)
            rw [e] at a3
            rw [a3] at h9
            rcases o8 with _ | _ | o8
            · simp at h9
            · simp at h9
            · simp at h9
          have HS2 : Aside0 (w3.drew.cell? ⟨p, 0, none⟩ = some (.slice (some ⟨g8, o8, none⟩) n8 c8) ∧ w3.drew.cell? ⟨g8, o8 + 2, none⟩ = some (.int .i64 (k.at_ : Int))) := ⟨⟨q0d, a3d⟩⟩
          have HS3 : Aside0 ((((((w3.setCell ⟨gR, 0, none⟩ (.string ⟨#[]⟩)).setCell ⟨gR, 1, none⟩ (.slice none 0 0)).setCell ⟨gR, 2, none⟩ (.slice none 0 0)).setCell ⟨gR, 3, none⟩ (.slice none 0 0)).drew).cell? ⟨p, 0, none⟩ = some (.slice (some ⟨g8, o8, none⟩) n8 c8) ∧ (((((w3.setCell ⟨gR, 0, none⟩ (.string ⟨#[]⟩)).setCell ⟨gR, 1, none⟩ (.slice none 0 0)).setCell ⟨gR, 2, none⟩ (.slice none 0 0)).setCell ⟨gR, 3, none⟩ (.slice none 0 0)).drew).cell? ⟨g8, o8 + 2, none⟩ = some (.int .i64 (k.at_ : Int))) := ⟨⟨(put4_cell _ _ _ _ (fun e => HNP.out e.symm) _).trans q0d, (put4_cell _ _ _ _ hg8 _).trans a3d⟩⟩
          have HKD : Aside0 (w3.drew.heap[gR]? = some (.cells #[.string ⟨#[]⟩, .slice none 0 0, .slice none 0 0, .slice none 0 0] 27 (0, 0))) := ⟨HK3.out⟩
          have HBD := Aside0.mk HB3.out.drew
          have hfw := fun i => blk_frozen HK3.out i
          have y0 : w3.cell? ⟨gR, 0, none⟩ = some (.string ⟨#[]⟩) := z0
          have y1 : w3.cell? ⟨gR, 1, none⟩ = some (.slice none 0 0) := z1
          have y2 : w3.cell? ⟨gR, 2, none⟩ = some (.slice none 0 0) := z2
          have y3 : w3.cell? ⟨gR, 3, none⟩ = some (.slice none 0 0) := z3
          have hfd : ∀ i, w3.drew.frozen? ⟨gR, i, none⟩ = false := hfw
          clear hg8 z0 z1 z2 z3 hfz
          have z0 : w3.drew.cell? ⟨gR, 0, none⟩ = some (.string ⟨#[]⟩) := blk_cell HKD.out 0
          have z1 : w3.drew.cell? ⟨gR, 1, none⟩ = some (.slice none 0 0) := blk_cell HKD.out 1
          have z2 : w3.drew.cell? ⟨gR, 2, none⟩ = some (.slice none 0 0) := blk_cell HKD.out 2
          have z3 : w3.drew.cell? ⟨gR, 3, none⟩ = some (.slice none 0 0) := blk_cell HKD.out 3
          have hfz := fun i => blk_frozen HKD.out i
          go_upto_region 10 with fail
          go_region_held (fun W => W.cell? ⟨p, 0, none⟩ = some (.slice (some ⟨g8, o8, none⟩) n8 c8) ∧ W.cell? ⟨g8, o8 + 2, none⟩ = some (.int .i64 (k.at_ : Int))) (first | with_reducible exact HS2.out | with_reducible exact HS3.out) (fail)
          all_goals
            go_wp2_with fail
            change bodyPost _ _ _ _ _ ((put4 w3 gR (.string ⟨#[]⟩) (.slice none 0 0) (.slice none 0 0) (.slice none 0 0)).drew)
            have hk8 := put4_blk HK3.out (.string ⟨#[]⟩) (.slice none 0 0) (.slice none 0 0) (.slice none 0 0)
            have hb8 := (put4_below HB3.out HGR.out (.string ⟨#[]⟩) (.slice none 0 0) (.slice none 0 0) (.slice none 0 0)).drew
            replace hk8 : (put4 w3 gR (.string ⟨#[]⟩) (.slice none 0 0) (.slice none 0 0) (.slice none 0 0)).drew.heap[gR]? = some (.cells #[.string ⟨#[]⟩, .slice none 0 0, .slice none 0 0, .slice none 0 0] 27 (0, 0)) := hk8
            obtain ⟨w8, hw8⟩ : ∃ x, (put4 w3 gR (.string ⟨#[]⟩) (.slice none 0 0) (.slice none 0 0) (.slice none 0 0)).drew = x := ⟨_, rfl⟩
            rw [hw8] at hk8 hb8 ⊢
            clear hw8 z0 z1 z2 z3 hfz y0 y1 y2 y3 hfw hfd
            have z0 : w8.cell? ⟨gR, 0, none⟩ = some (.string ⟨#[]⟩) := blk_cell hk8 0
            have z1 : w8.cell? ⟨gR, 1, none⟩ = some (.slice none 0 0) := blk_cell hk8 1
            have z2 : w8.cell? ⟨gR, 2, none⟩ = some (.slice none 0 0) := blk_cell hk8 2
            have z3 : w8.cell? ⟨gR, 3, none⟩ = some (.slice none 0 0) := blk_cell hk8 3
            refine bodyPost_ret (v := .tuple #[.agg #[.string ⟨#[]⟩, .slice none 0 0, .slice none 0 0, .slice none 0 0], .int .i64 (k.at_ : Int), .int .i64 5]) ?_ rfl ?_
            · rw [results_cell3 rfl]
              go_simp
              first | rfl | done
            · exact ⟨_, _, _, rfl, ⟨ScAll.nil _⟩, ⟨hb8⟩⟩
      | false =>
        simp only [Bool.false_eq_true, if_false] at hP2
        obtain ⟨hx9, hP3⟩ := Prod.mk.inj hP2
        obtain ⟨rfl, rfl⟩ := Prod.mk.inj hP3
        have HXX := Aside0.mk hx9
        clear hP2 hP3 hx9
        obtain ⟨u9, hk9⟩ := HP3.out.wrong
        have q1 : w3.cell? ⟨p, 1, none⟩ = some (.bool false) := blk_cell hk9 1
        clear hk9
        have hap := HSR.out.ap
        have hes := HSR.out.es
        obtain ⟨_, hXl, hCm⟩ := Kd.R_reads' HM3.out
        have HCL := Aside0.mk (show xm.length ≤ cm ∧ xm.length ≤ 9223372036854775807 from ⟨hXl, hCm.2.1⟩)
        obtain ⟨_, hEl, hCe⟩ := Kd.R_reads' HE3.out
        obtain ⟨gm, hgm⟩ : ∃ gm, 0 < xm.length → Am = some ⟨gm, 0, none⟩ ∧ MsgsAt w3 B gm xm := by
          by_cases h0 : 0 < xm.length
          · obtain ⟨g9, h1, h2⟩ := msgs_of_R HM3.out h0
            exact ⟨g9, fun _ => ⟨h1, h2⟩⟩
          · exact ⟨0, fun h => absurd h h0⟩
        have HGM := Aside0.mk hgm
        have HFF : Aside0 (∀ y ∈ xm, y.1.f1.length ≤ 9223372036854775807 ∧ ∀ f ∈ y.1.f1, f.f3.f1.size ≤ 16384) := ⟨fun y hy => by
          obtain ⟨i, hi⟩ := List.getElem?_of_mem hy
          obtain ⟨_, hms⟩ := hgm (by have := (List.getElem?_eq_some_iff.1 hi).1; omega)
          obtain ⟨v1, v2, hma⟩ := hms.el i y hi
          obtain ⟨A9, c9, rfl, _⟩ := Kd.Q_slice hma.q1
          obtain ⟨_, _, hC9⟩ := Kd.Q_reads' hma.q1
          refine ⟨hC9.2.1, fun f hf => ?_⟩
          have h8 : y.1 ∈ X.msgs.map gS := by rw [← HSR.out.ms]; exact List.mem_map.2 ⟨y, hy, rfl⟩
          obtain ⟨m, hm, hmy⟩ := List.mem_map.1 h8
          rw [← hmy] at hf
          obtain ⟨fd, hfd, rfl⟩ := List.mem_map.1 (show f ∈ m.fields.map fS from hf)
          exact (HOKX.out.fs m hm fd hfd).2⟩
        have HES : Aside0 (∀ e ∈ xe, e.f0.size ≤ 16384) := ⟨fun e he => by
          rw [hes] at he
          obtain ⟨en, hen, rfl⟩ := List.mem_map.1 he
          exact HOKX.out.es en hen⟩
        have hXl2 := hCm.2.1
        have hEl2 := hCe.2.1
        have HAP := Aside0.mk hap
        clear hap hes hXl hEl hCm hCe hgm
        go_wp2_with fail
        refine (resolve_any w3 B gx gm 0 X.name Am Ae cm ce (.slice At xt.length ct) xm xe HKX.out HGM.out HAP.out hXl2 HFF.out HE3.out hEl2 HES.out hBx).mono ?_
        rintro e w4 ⟨rfl, HMS, HB4, HFR⟩
        have HK4 := Aside0.mk ((HB4.out.block _ HRB.out).trans HK3.out)
        have HKX4 := Aside0.mk (HFR.out gx _ _ HKX.out (by decide))
        have HE4 := Aside0.mk (row_res HE3.out HFR.out (by decide))
        have HT4 := Aside0.mk (row_res HT3.out HFR.out (by decide))
        have HBW4 := Aside0.mk (HB3.out.trans (HB4.out.mono HBW.out))
        have z0 : w4.cell? ⟨gR, 0, none⟩ = some (.string ⟨#[]⟩) := blk_cell HK4.out 0
        have z1 : w4.cell? ⟨gR, 1, none⟩ = some (.slice none 0 0) := blk_cell HK4.out 1
        have z2 : w4.cell? ⟨gR, 2, none⟩ = some (.slice none 0 0) := blk_cell HK4.out 2
        have z3 : w4.cell? ⟨gR, 3, none⟩ = some (.slice none 0 0) := blk_cell HK4.out 3
        have hfz := fun i => blk_frozen HK4.out i
        have y0 : w4.cell? ⟨gx, 0, none⟩ = some (.string X.name) := blk_cell HKX4.out 0
        have y1 : w4.cell? ⟨gx, 1, none⟩ = some (.slice Am xm.length cm) := blk_cell HKX4.out 1
        have y2 : w4.cell? ⟨gx, 2, none⟩ = some (.slice Ae xe.length ce) := blk_cell HKX4.out 2
        have y3 : w4.cell? ⟨gx, 3, none⟩ = some (.slice At xt.length ct) := blk_cell HKX4.out 3
        clear q1
        go_wp2_with fail
        change bodyPost _ _ _ _ _ (put4 w4 gR (.string X.name) (.slice Am xm.length cm) (.slice Ae xe.length ce) (.slice At xt.length ct))
        have hk8 := put4_blk HK4.out (.string X.name) (.slice Am xm.length cm) (.slice Ae xe.length ce) (.slice At xt.length ct)
        have hb8 := put4_below HBW4.out HGR.out (.string X.name) (.slice Am xm.length cm) (.slice Ae xe.length ce) (.slice At xt.length ct)
        have hrd := scrd_all (w := put4 w4 gR (.string X.name) (.slice Am xm.length cm) (.slice Ae xe.length ce) (.slice At xt.length ct)) HXX.out HSR.out (fun h9 => ⟨(HGM.out h9).1, (HMS.out h9).step (fun k8 c8 t8 h8 ht8 => (put4_far _ _ _ _ (fun e9 => by rw [e9, HK4.out] at h8; injection h8 with h8; injection h8 with _ h8; subst h8; revert ht8; decide)).trans h8)⟩) HCL.out (row_put4 HE4.out HK4.out (by decide) _ _ _ _) (row_put4 HT4.out HK4.out (by decide) _ _ _ _)
        obtain ⟨w8, hw8⟩ : ∃ x, put4 w4 gR (.string X.name) (.slice Am xm.length cm) (.slice Ae xe.length ce) (.slice At xt.length ct) = x := ⟨_, rfl⟩
        rw [hw8] at hk8 hb8 hrd ⊢
        clear hw8 z0 z1 z2 z3 hfz
        have z0 : w8.cell? ⟨gR, 0, none⟩ = some (.string X.name) := blk_cell hk8 0
        have z1 : w8.cell? ⟨gR, 1, none⟩ = some (.slice Am xm.length cm) := blk_cell hk8 1
        have z2 : w8.cell? ⟨gR, 2, none⟩ = some (.slice Ae xe.length ce) := blk_cell hk8 2
        have z3 : w8.cell? ⟨gR, 3, none⟩ = some (.slice At xt.length ct) := blk_cell hk8 3
        refine bodyPost_ret (v := .tuple #[.agg #[.string X.name, .slice Am xm.length cm, .slice Ae xe.length ce, .slice At xt.length ct], .int .i64 0, .int .i64 0]) ?_ rfl ?_
        · rw [results_cell3 rfl]
          go_simp
          first | rfl | done
        · exact ⟨_, _, _, by rw [← HXX.out]; rfl, ⟨hrd⟩, ⟨hb8⟩⟩
end Go.Proofs.YtbfhglaaombglaaDoor

/- The laws' example. -/
namespace Go.Proofs.YtbfhglaaombglaaDoor
set_option linter.unusedVariables false
set_option linter.unusedSimpArgs false
open Go.RowKit Go.ChangeMaps Go.Proofs.YtbfhglaaombglaaDoorW.PrintWords Go.Proofs.YtbfhglaaombglaaDoorW.PrintMore Go.Proofs.YtbfhglaaombglaaDoor.PIdlParses

def exI : ByteArray := ⟨#[115, 99, 104, 101, 109, 97, 32, 97, 59, 32, 109, 101, 115, 115, 97, 103, 101, 32, 109, 32, 123, 32, 105, 110, 116, 51, 50, 32, 120, 32, 61, 32, 49, 59, 32, 125]⟩
def exX : Sc := ⟨⟨#[97]⟩, [⟨⟨#[109]⟩, [⟨⟨#[120]⟩, 1, 1, 1, ⟨#[]⟩⟩], []⟩], [], []⟩
theorem ex_parse : parseF exI = (exX, 0, 0) := by kernel_rfl
/-- The first element of a row of messages. -/
theorem msg0 {w : World} {A : Option Addr} {n : Nat} {m : S45} {l : List S45} (h : k45.C w A n (m :: l)) : ∃ b o z A1 c1 A2 c2, A = some ⟨b, o, z⟩ ∧ w.cell? ⟨b, o, z⟩ = some (.string m.f0) ∧ w.cell? ⟨b, o + 1, none⟩ = some (.slice A1 m.f1.length c1) ∧ w.cell? ⟨b, o + 2, none⟩ = some (.slice A2 m.f2.length c2) ∧ k43.C w A1 m.f1.length m.f1 ∧ (Kd.int .i64).C w A2 m.f2.length m.f2 := by
  obtain ⟨ad, rfl, hc⟩ := h.2.2 (by rw [← h.1]; simp)
  obtain ⟨cs, _, hK, hcc⟩ := hc 0 m rfl
  obtain ⟨A1, c1, A2, c2, rfl, _, C1, _, C2⟩ := k45_open hK
  obtain ⟨b, o, z⟩ := ad
  exact ⟨b, o, z, A1, c1, A2, c2, rfl, hcc 0 _ rfl, hcc 1 _ rfl, hcc 2 _ rfl, C1, C2⟩
/-- The elements of a row of fields. -/
theorem fld_at {w : World} {A : Option Addr} {n : Nat} {l : List S43} (h : k43.C w A n l) (hn : 0 < l.length) : ∃ b o z, A = some ⟨b, o, z⟩ ∧ ∀ j f, l[j]? = some f →
    w.cell? ((⟨b, o, z⟩ : Addr).add (j * 5)) = some (.string f.f0) ∧ w.cell? ⟨b, o + (j * 5 + 1), none⟩ = some (.int .i64 f.f1) ∧ w.cell? ⟨b, o + (j * 5 + 2), none⟩ = some (.int .i64 f.f2) ∧ w.cell? ⟨b, o + (j * 5 + 3), none⟩ = some (.int .i64 f.f3.f0) ∧ w.cell? ⟨b, o + (j * 5 + 4), none⟩ = some (.string f.f3.f1) := by
  obtain ⟨⟨b, o, z⟩, rfl, hc⟩ := h.2.2 (by rw [← h.1]; exact hn)
  refine ⟨b, o, z, rfl, fun j f hf => ?_⟩
  obtain ⟨cs, _, hK, hcc⟩ := hc j f hf
  have hcs := k43_open hK
  subst hcs
  exact ⟨hcc 0 _ rfl, hcc 1 _ rfl, hcc 2 _ rfl, hcc 3 _ rfl, hcc 4 _ rfl⟩
/-- Parse, its parts by name. -/
theorem parse_parts (s : ByteArray) (w : World) (hs : s.size ≤ 140737488351232) (hT : Tabs w) (x : Sc) (at_ er : Nat) (hP : Aside0 (parseF s = (x, at_, er))) (nm : ByteArray) (ms : List S45) (es : List S68) (ts : List S72) (n1 n2 n3 : Nat)
    (h : Aside0 (x.name = nm ∧ x.msgs.map gS = ms ∧ x.enums.map eS = es ∧ x.meths.map mS = ts ∧ ms.length = n1 ∧ es.length = n2 ∧ ts.length = n3)) :
    Calls Tryd.prog 10 #[.string s] w fun e w' => ∃ A1 c1 A2 c2 A3 c3, e = .returned (.tuple #[.agg #[.string nm, .slice A1 n1 c1, .slice A2 n2 c2, .slice A3 n3 c3], .int .i64 (at_ : Int), .int .i64 (er : Int)]) ∧ Aside0 (n1 ≤ c1 ∧ k45.C w' A1 n1 ms) ∧ Aside0 (n2 ≤ c2 ∧ k68.C w' A2 n2 es) ∧ Aside0 (n3 ≤ c3 ∧ k72.C w' A3 n3 ts) ∧ Aside0 (Below w.heap.size w w') := by
  refine (parse_any s w hs hT x at_ er hP).mono ?_
  rintro e w1 ⟨v1, v2, v3, rfl, HS, HB⟩
  obtain ⟨A1, c1, A2, c2, A3, c3, rfl, l1, C1, rfl, l2, C2, rfl, l3, C3⟩ := HS.out w1 (FrS.refl w1)
  obtain ⟨h1, h2, h3, h4, h5, h6, h7⟩ := h.out
  rw [h2, h5] at l1 C1
  rw [h3, h6] at l2 C2
  rw [h4, h7] at l3 C3
  rw [h1, h2, h3, h4, h5, h6, h7]
  exact ⟨A1, c1, A2, c2, A3, c3, rfl, ⟨l1, C1⟩, ⟨l2, C2⟩, ⟨l3, C3⟩, HB⟩
/-- Parse, its parts by name, in whatever world has its rows. -/
theorem parse_parts_all (s : ByteArray) (w : World) (hs : s.size ≤ 140737488351232) (hT : Tabs w) (x : Sc) (at_ er : Nat) (hP : Aside0 (parseF s = (x, at_, er))) (nm : ByteArray) (ms : List S45) (es : List S68) (ts : List S72) (n1 n2 n3 : Nat)
    (h : Aside0 (x.name = nm ∧ x.msgs.map gS = ms ∧ x.enums.map eS = es ∧ x.meths.map mS = ts ∧ ms.length = n1 ∧ es.length = n2 ∧ ts.length = n3)) :
    Calls Tryd.prog 10 #[.string s] w fun e w' => ∃ A1 c1 A2 c2 A3 c3, e = .returned (.tuple #[.agg #[.string nm, .slice A1 n1 c1, .slice A2 n2 c2, .slice A3 n3 c3], .int .i64 (at_ : Int), .int .i64 (er : Int)]) ∧ Aside0 (∀ W, FrS w' W → (n1 ≤ c1 ∧ k45.C W A1 n1 ms) ∧ (n2 ≤ c2 ∧ k68.C W A2 n2 es) ∧ (n3 ≤ c3 ∧ k72.C W A3 n3 ts)) ∧ Aside0 (Below w.heap.size w w') := by
  refine (parse_any s w hs hT x at_ er hP).mono ?_
  rintro e w1 ⟨v1, v2, v3, rfl, HS, HB⟩
  obtain ⟨A1, c1, A2, c2, A3, c3, rfl, l1, C1, rfl, l2, C2, rfl, l3, C3⟩ := HS.out w1 (FrS.refl w1)
  obtain ⟨h1, h2, h3, h4, h5, h6, h7⟩ := h.out
  refine ⟨A1, c1, A2, c2, A3, c3, by rw [h1, h2, h5, h3, h6, h4, h7], ⟨fun W hF => ?_⟩, HB⟩
  obtain ⟨B1, d1, B2, d2, B3, d3, e1, l1, C1, e2, l2, C2, e3, l3, C3⟩ := HS.out W hF
  injection e1 with e1 _ f1
  injection e2 with e2 _ f2
  injection e3 with e3 _ f3
  subst e1; subst f1; subst e2; subst f2; subst e3; subst f3
  rw [h2, h5] at l1 C1
  rw [h3, h6] at l2 C2
  rw [h4, h7] at l3 C3
  exact ⟨⟨l1, C1⟩, ⟨l2, C2⟩, ⟨l3, C3⟩⟩
def exM : S45 := ⟨⟨#[109]⟩, [⟨⟨#[120]⟩, 1, 1, ⟨1, ⟨#[]⟩⟩⟩], []⟩
set_option maxRecDepth 100000 in
set_option maxHeartbeats 1000000 in
theorem awake_any (w : World) (hT : Tabs w) :
    Calls Tryd.prog 9 #[] w fun e w' => e = .returned (.bool true) ∧ Below w.heap.size w w' := by
  have HT := Aside0.mk hT
  clear hT
  go_enter Tryd.func9, Tryd.ntmps9
  go_wp2_with fail
  refine (parse_parts exI _ (by decide) HT.out exX 0 0 ⟨ex_parse⟩ ⟨#[97]⟩ [exM] [] [] 1 0 0 ⟨⟨rfl, rfl, rfl, rfl, rfl, rfl, rfl⟩⟩).mono ?_
  rintro e w1 ⟨A1, c1, A2, c2, A3, c3, rfl, HC, _, _, HB⟩
  have hbx : Below w1.heap.size w1 (w1.alloc (.cells #[.string ⟨#[97]⟩, .slice A1 1 c1, .slice A2 0 c2, .slice A3 0 c3] 27)) := (Below.refl _ _).alloc (Nat.le_refl _) _
  have hk9 := heap_alloc_new w1 (.cells #[.string ⟨#[97]⟩, .slice A1 1 c1, .slice A2 0 c2, .slice A3 0 c3] 27)
  have HC2 := Aside0.mk (Kd.C_below HC.out.2 hbx)
  have HB9 := Aside0.mk (HB.out.trans (hbx.mono HB.out.size))
  clear hbx HB HC
  go_upto_region 2 with fail
  change Code.wp _ _ _ _ (w1.alloc (.cells #[.string ⟨#[97]⟩, .slice A1 1 c1, .slice A2 0 c2, .slice A3 0 c3] 27))
  obtain ⟨gx, hgx⟩ : ∃ x, w1.heap.size = x := ⟨_, rfl⟩
  obtain ⟨w2, hw2⟩ : ∃ x, w1.alloc (.cells #[.string ⟨#[97]⟩, .slice A1 1 c1, .slice A2 0 c2, .slice A3 0 c3] 27) = x := ⟨_, rfl⟩
  rw [hgx] at hk9
  rw [hw2] at hk9 HC2 HB9 ⊢
  simp only [hgx]
  clear hw2 hgx
  have y1 : w2.cell? ⟨gx, 1, none⟩ = some (.slice A1 1 c1) := blk_cell hk9 1
  obtain ⟨b, o, z, Af, cf, Ar, cr, rfl, m0, m1, m2, hF, _⟩ := msg0 HC2.out
  obtain ⟨b2, o2, z2, rfl, hf⟩ := fld_at hF (by decide)
  obtain ⟨f0, f1, f2, f3, f4⟩ := hf 0 _ rfl
  have f0' : w2.cell? ⟨b2, o2, z2⟩ = some (.string ⟨#[120]⟩) := f0
  have f1' : w2.cell? ⟨b2, o2 + 1, none⟩ = some (.int .i64 1) := f1
  have f2' : w2.cell? ⟨b2, o2 + 2, none⟩ = some (.int .i64 1) := f2
  have f3' : w2.cell? ⟨b2, o2 + 3, none⟩ = some (.int .i64 1) := f3
  have f4' : w2.cell? ⟨b2, o2 + 4, none⟩ = some (.string ⟨#[]⟩) := f4
  have m1' : w2.cell? ⟨b, o + 1, none⟩ = some (.slice (some ⟨b2, o2, z2⟩) 1 cf) := m1
  have heq : ∀ n W, (Op.equalIn (n + 3) 43 (.agg #[.string ⟨#[120]⟩, .int .i64 1, .int .i64 1, .int .i64 1, .string ⟨#[]⟩]) (.agg #[.string ⟨#[120]⟩, .int .i64 1, .int .i64 1, .int .i64 1, .string ⟨#[]⟩])).run Tryd.prog W = .ok true W := fun n W => by
    have h9 := eqA43 n W ⟨#[120]⟩ ⟨#[120]⟩ 1 1 1 1 1 1 ⟨#[]⟩ ⟨#[]⟩
    simpa using h9
  clear f0 f1 f2 f3 f4 hf hF m0 m1 m2 hk9
  go_wp2_with fail
  go_ret
  exact ⟨rfl, HB9.out⟩
end Go.Proofs.YtbfhglaaombglaaDoor
