/- Texts laid together by a program of this claim's, without the theorems that it does not use. -/
import Derived.Test.YtbfhglaaombglaaDoorId
import Derived.Test.YtbfhglaaombglaaDoorIc
import Derived.Deep.RegionLaw
section
namespace Go.Proofs.YtbfhglaaombglaaDoor
set_option linter.unusedVariables false
set_option linter.unusedSimpArgs false
open Go.RowKit Go.Proofs.YtbfhglaaombglaaDoorW.PrintWords Go.Proofs.YtbfhglaaombglaaDoor.PIdlParses
/-- A message, as the reference keeps it. -/
def gSr (m : Mg) : S45 := ⟨m.name, m.fields.map rS, nums_ m.res⟩
/-- What has been read of a schema. -/
structure ScRelR (x : Sc) (nm : ByteArray) (xm : List (S45 × Nat × Nat)) (xe : List S68) (xt : List S72) (n : Nat) : Prop where
  nam : x.name = nm
  ms : xm.map (·.1) = x.msgs.map gSr
  es : xe = x.enums.map eS
  ts : xt = x.meths.map mS
  ap : xm.Pairwise (fun a b => a.2.2 ≤ b.2.1)
  le : ∀ a ∈ xm, a.2.2 ≤ n
theorem ScRelR.more {x : Sc} {nm : ByteArray} {xm : List (S45 × Nat × Nat)} {xe : List S68} {xt : List S72} {n n' : Nat} (h : ScRelR x nm xm xe xt n) (hn : n ≤ n') : ScRelR x nm xm xe xt n' :=
  ⟨h.nam, h.ms, h.es, h.ts, h.ap, fun a ha => Nat.le_trans (h.le a ha) hn⟩
theorem ScRelR.addM {x : Sc} {nm : ByteArray} {xm : List (S45 × Nat × Nat)} {xe : List S68} {xt : List S72} {n n' : Nat} (h : ScRelR x nm xm xe xt n) (m : Mg) (lo hi : Nat) (h1 : n ≤ lo) (h2 : hi ≤ n') (h3 : n ≤ n') :
    ScRelR { x with msgs := x.msgs ++ [m] } nm (xm ++ [(gSr m, lo, hi)]) xe xt n' :=
  ⟨h.nam, by rw [List.map_append, List.map_append, h.ms]; rfl, h.es, h.ts, List.pairwise_append.2 ⟨h.ap, List.pairwise_singleton _ _, fun a ha b hb => by rw [List.mem_singleton.1 hb]; exact Nat.le_trans (h.le a ha) h1⟩, fun a ha => by
    rcases List.mem_append.1 ha with ha | ha
    · exact Nat.le_trans (h.le a ha) h3
    · rw [List.mem_singleton.1 ha]; exact h2⟩
theorem ScRelR.addE {x : Sc} {nm : ByteArray} {xm : List (S45 × Nat × Nat)} {xe : List S68} {xt : List S72} {n n' : Nat} (h : ScRelR x nm xm xe xt n) (m : En) (h3 : n ≤ n') : ScRelR { x with enums := x.enums ++ [m] } nm xm (xe ++ [eS m]) xt n' :=
  ⟨h.nam, h.ms, by rw [List.map_append, ← h.es]; rfl, h.ts, h.ap, fun a ha => Nat.le_trans (h.le a ha) h3⟩
theorem ScRelR.addT {x : Sc} {nm : ByteArray} {xm : List (S45 × Nat × Nat)} {xe : List S68} {xt : List S72} {n n' : Nat} (h : ScRelR x nm xm xe xt n) (m : Mt) (h3 : n ≤ n') : ScRelR { x with meths := x.meths ++ [m] } nm xm xe (xt ++ [mS m]) n' :=
  ⟨h.nam, h.ms, h.es, by rw [List.map_append, ← h.ts]; rfl, h.ap, fun a ha => Nat.le_trans (h.le a ha) h3⟩
/-- A schema that is being read, and its rows, in memory. -/
def DS (w0 wb w : World) (p gs : Nat) (nm : ByteArray) (x : Sc) (st : St) : Prop :=
  ∃ (Am : Option Addr) (cm : Nat) (Ae : Option Addr) (ce : Nat) (At : Option Addr) (ct : Nat) (xm : List (S45 × Nat × Nat)) (xe : List S68) (xt : List S72),
    Aside0 (PQ w0 w p st) ∧ Aside0 (wb.grownBy w (some p)) ∧ Aside0 (w.heap[gs]? = some (.cells #[.string nm, .slice Am xm.length cm, .slice Ae xe.length ce, .slice At xt.length ct] 27 (0, 0))) ∧ Aside0 (kI.R 45 w wb.heap.size (fun _ => True) (.slice Am xm.length cm) (xm)) ∧ Aside0 (k68.R 68 w wb.heap.size (fun _ => True) (.slice Ae xe.length ce) (xe)) ∧ Aside0 (k72.R 72 w wb.heap.size (fun _ => True) (.slice At xt.length ct) (xt)) ∧
    Aside0 (ScRelR x nm xm xe xt w.heap.size) ∧ Aside0 (xm.length + mu st ≤ 20001 ∧ xe.length + mu st ≤ 20001 ∧ xt.length + mu st ≤ 20001)
/-- What is read of a list is no more than what is left. -/
theorem res_len : ∀ k l st, mu st ≤ k → (resA l st).1.length + mu (resA l st).2 ≤ l.length + mu st := by
  intro k
  induction k with
  | zero => intro l st h; rw [resA_step, if_neg (fun ht => by have := mu_pos (takes_some ht).1; omega)]; exact Nat.le_refl _
  | succ k ih =>
    intro l st h
    rw [resA_step]
    by_cases ht : takesB c_comma st = true
    · have h2 := mu_takes ht
      have h3 := mu_num (takesM c_comma st)
      rw [if_pos ht]
      have := ih (l ++ [numV (takesM c_comma st)]) (numM (takesM c_comma st)) (by omega)
      rw [List.length_append] at this
      simp only [List.length_cons, List.length_nil] at this
      omega
    · rw [if_neg ht]; exact Nat.le_refl _
theorem msgA_mem (f : List Fd) (r : List Nat) (st : St) (hb : st.2 = false) (ht : takesB c_close st = false) : msgA f r st = msgA (memS f r st).1 (memS f r st).2.1 (memS f r st).2.2 := by
  unfold memS
  cases hr : takesB w_reserved st with
  | true => rw [if_pos rfl]; exact msgA_res f r st ht hr
  | false => rw [if_neg (by decide)]; exact msgA_field f r st hb ht hr
theorem mem_mu (f : List Fd) (r : List Nat) (st : St) (hb : st.2 = false) : mu (memS f r st).2.2 < mu st ∧ (memS f r st).1.length + mu (memS f r st).2.2 ≤ f.length + mu st ∧ (memS f r st).2.1.length + mu (memS f r st).2.2 ≤ r.length + mu st := by
  unfold memS
  cases hr : takesB w_reserved st with
  | true =>
    rw [if_pos rfl]
    have h1 := mu_takes hr
    have h2 := mu_num (takesM w_reserved st)
    have h3 := res_len _ (r ++ [numV (takesM w_reserved st)]) (numM (takesM w_reserved st)) (Nat.le_refl _)
    have h4 := mu_need c_semi (resA (r ++ [numV (takesM w_reserved st)]) (numM (takesM w_reserved st))).2
    rw [List.length_append] at h3
    simp only [List.length_cons, List.length_nil] at h3 ⊢
    have h5 := mu_msg_res r hr
    omega
  | false =>
    rw [if_neg (by decide)]
    have h1 := mu_msg_field hb
    simp only [List.length_append, List.length_cons, List.length_nil]
    omega
theorem PQ.bad {w0 w : World} {p : Nat} {st : St} (h : PQ w0 w p st) : PQ w0 (w.setCell ⟨p, 2, none⟩ (.bool true)) p (st.1, true) ∧ w.grownBy (w.setCell ⟨p, 2, none⟩ (.bool true)) (some p) :=
  ⟨⟨h.pr.bad.1, h.ok⟩, h.pr.bad.2⟩
set_option maxRecDepth 100000 in
set_option maxHeartbeats 8000000 in
theorem decl_none (w0 wb w : World) (p gs : Nat) (nm : ByteArray) (x : Sc) (st : St) (HDS : DS w0 wb w p gs nm x st) (HWB : Aside0 (w0.heap.size ≤ wb.heap.size)) (HLgs : Aside0 (wb.heap.size ≤ gs)) (HNgs : Aside0 (gs ≠ p)) (h1 : takesB w_message st = false) (h2 : takesB w_enum st = false) (h3 : takesB w_call st = false) :
    Calls Tryd.prog 21 #[.pointer (some ⟨p, 0, none⟩), .pointer (some ⟨gs, 0, none⟩)] w fun e w' => e = .returned (.tuple #[]) ∧ DS w0 wb w' p gs nm x (st.1, true) := by
  obtain ⟨Am, cm, Ae, ce, At, ct, xm, xe, xt, H, HBB, Hgs, HM0, HE0, HT0, HSR, HLN⟩ := HDS
  have HWgs : Aside0 (w0.heap.size ≤ gs) := ⟨Nat.le_trans HWB.out HLgs.out⟩
  have HPw := H
  have HBw := Aside0.mk (World.grownBy.refl w (some p))
  have HW1 := Aside0.mk h1
  have HW2 := Aside0.mk h2
  have HW3 := Aside0.mk h3
  have HNM : Aside0 (mu (st.1, true) = 0) := ⟨rfl⟩
  go_enter Tryd.func21, Tryd.ntmps21
  go_wp2_with fail
  refine (qis_no w0 w p st HPw w_message ⟨by decide⟩ HW1).mono ?_
  rintro e w1 ⟨rfl, HPw1, hb9⟩
  have HBw1 := Aside0.mk (HBw.out.trans hb9.out)
  clear hb9 HPw HBw 
  go_wp2_with fail
  refine (qis_no w0 w1 p st HPw1 w_enum ⟨by decide⟩ HW2).mono ?_
  rintro e w2 ⟨rfl, HPw2, hb9⟩
  have HBw2 := Aside0.mk (HBw1.out.trans hb9.out)
  clear hb9 HPw1 HBw1 
  go_wp2_with fail
  refine (qis_no w0 w2 p st HPw2 w_call ⟨by decide⟩ HW3).mono ?_
  rintro e w3 ⟨rfl, HPw3, hb9⟩
  have HBw3 := Aside0.mk (HBw2.out.trans hb9.out)
  clear hb9 HPw2 HBw2 
  obtain ⟨u9, v9, hk9⟩ := HPw3.out.bad9
  have z1 := blk_frozen hk9 2
  have c1 : w3.cell? ⟨p, 2, none⟩ = some (.bool st.2) := blk_cell hk9 2
  obtain ⟨h8, h9⟩ := HPw3.out.bad
  have HB8 := Aside0.mk (HBw3.out.trans h9)
  have HP8 := Aside0.mk h8
  clear h8 h9 hk9 HPw3 HBw3
  go_wp2_with fail
  go_end0
  exact ⟨rfl, Am, cm, Ae, ce, At, ct, xm, xe, xt, HP8, ⟨HBB.out.trans HB8.out⟩, ⟨grown_block HB8.out Hgs.out HNgs.out⟩, ⟨qrow_call HM0.out H.out (by decide) HB8.out⟩, ⟨qrow_call HE0.out H.out (by decide) HB8.out⟩, ⟨qrow_call HT0.out H.out (by decide) HB8.out⟩, ⟨HSR.out.more HB8.out.size⟩, ⟨by have h9 := HLN.out; have hm9 := HNM.out; omega⟩⟩
set_option maxRecDepth 100000 in
set_option maxHeartbeats 8000000 in
theorem decl_call (w0 wb w : World) (p gs : Nat) (nm : ByteArray) (x : Sc) (st : St) (HDS : DS w0 wb w p gs nm x st) (HWB : Aside0 (w0.heap.size ≤ wb.heap.size)) (HLgs : Aside0 (wb.heap.size ≤ gs)) (HNgs : Aside0 (gs ≠ p)) (h1 : takesB w_message st = false) (h2 : takesB w_enum st = false) (h3 : takesB w_call st = true) :
    Calls Tryd.prog 21 #[.pointer (some ⟨p, 0, none⟩), .pointer (some ⟨gs, 0, none⟩)] w fun e w' => e = .returned (.tuple #[]) ∧ DS w0 wb w' p gs nm { x with meths := x.meths ++ [callV (takesM w_call st)] } (callM (takesM w_call st)) := by
  obtain ⟨Am, cm, Ae, ce, At, ct, xm, xe, xt, H, HBB, Hgs, HM0, HE0, HT0, HSR, HLN⟩ := HDS
  have HWgs : Aside0 (w0.heap.size ≤ gs) := ⟨Nat.le_trans HWB.out HLgs.out⟩
  have HPw := H
  have HBw := Aside0.mk (World.grownBy.refl w (some p))
  have HW1 := Aside0.mk h1
  have HW2 := Aside0.mk h2
  have HW3 := Aside0.mk h3
  obtain ⟨t0, ht0⟩ : ∃ s, takesM w_call st = s := ⟨_, rfl⟩
  have HT9 : Aside0 ((st.1.tail, st.2) = t0) := ⟨by rw [← ht0, takesM, if_pos h3]⟩
  have hm1 := mu_takes h3
  have hm2 := mu_call t0
  rw [ht0] at hm1 ⊢
  obtain ⟨a1, ha1⟩ : ∃ s, nameM t0 = s := ⟨_, rfl⟩
  obtain ⟨a2, ha2⟩ : ∃ s, need c_po a1 = s := ⟨_, rfl⟩
  obtain ⟨a3, ha3⟩ : ∃ s, nameM a2 = s := ⟨_, rfl⟩
  obtain ⟨a4, ha4⟩ : ∃ s, need c_pc a3 = s := ⟨_, rfl⟩
  obtain ⟨a5, ha5⟩ : ∃ s, need w_returns a4 = s := ⟨_, rfl⟩
  obtain ⟨a6, ha6⟩ : ∃ s, need c_po a5 = s := ⟨_, rfl⟩
  obtain ⟨a7, ha7⟩ : ∃ s, nameM a6 = s := ⟨_, rfl⟩
  obtain ⟨a8, ha8⟩ : ∃ s, need c_pc a7 = s := ⟨_, rfl⟩
  obtain ⟨a9, ha9⟩ : ∃ s, need c_semi a8 = s := ⟨_, rfl⟩
  obtain ⟨n1, hn1⟩ : ∃ s, nameV t0 = s := ⟨_, rfl⟩
  obtain ⟨n2, hn2⟩ : ∃ s, nameV a2 = s := ⟨_, rfl⟩
  obtain ⟨n3, hn3⟩ : ∃ s, nameV a6 = s := ⟨_, rfl⟩
  have hV : callV t0 = ⟨n1, n2, n3⟩ := by rw [callV]; simp only [ha1, ha2, ha3, ha4, ha5, ha6, hn1, hn2, hn3]
  have hS : callM t0 = a9 := by rw [callM]; simp only [ha1, ha2, ha3, ha4, ha5, ha6, ha7, ha8, ha9]
  rw [hS] at hm2
  rw [hV, hS]
  have HMU9 : Aside0 (mu a9 + 1 ≤ mu st) := ⟨by omega⟩
  have Aa1 := Aside0.mk ha1
  have Aa2 := Aside0.mk ha2
  have Aa3 := Aside0.mk ha3
  have Aa4 := Aside0.mk ha4
  have Aa5 := Aside0.mk ha5
  have Aa6 := Aside0.mk ha6
  have Aa7 := Aside0.mk ha7
  have Aa8 := Aside0.mk ha8
  have Aa9 := Aside0.mk ha9
  have An1 := Aside0.mk hn1
  have An2 := Aside0.mk hn2
  have An3 := Aside0.mk hn3
  clear ha1 ha2 ha3 ha4 ha5 ha6 ha7 ha8 ha9 hn1 hn2 hn3 hV hS hm1 hm2 ht0
  go_enter Tryd.func21, Tryd.ntmps21
  go_wp2_with fail
  refine (qis_no w0 w p st HPw w_message ⟨by decide⟩ HW1).mono ?_
  rintro e w1 ⟨rfl, HPw1, hb9⟩
  have HBw1 := Aside0.mk (HBw.out.trans hb9.out)
  clear hb9 HPw HBw 
  go_wp2_with fail
  refine (qis_no w0 w1 p st HPw1 w_enum ⟨by decide⟩ HW2).mono ?_
  rintro e w2 ⟨rfl, HPw2, hb9⟩
  have HBw2 := Aside0.mk (HBw1.out.trans hb9.out)
  clear hb9 HPw1 HBw1 
  go_wp2_with fail
  refine (qis_yes w0 w2 p st HPw2 w_call ⟨by decide⟩ HW3 t0 HT9).mono ?_
  rintro e w3 ⟨rfl, HPw3, hb9⟩
  have HBw3 := Aside0.mk (HBw2.out.trans hb9.out)
  clear hb9 HPw2 HBw2 
  go_wp2_with fail
  refine (qname w0 w3 p t0 HPw3 n1 An1 a1 Aa1).mono ?_
  rintro e w4 ⟨rfl, HPw4, hb9⟩
  have HBw4 := Aside0.mk (HBw3.out.trans hb9.out)
  clear hb9 HPw3 HBw3 
  go_upto_region 19 with fail
  change Code.wp _ _ _ _ (w4.alloc (.cells #[.string n1, .string ⟨#[]⟩, .string ⟨#[]⟩] 72))
  have hbel : Below w4.heap.size w4 (w4.alloc (.cells #[.string n1, .string ⟨#[]⟩, .string ⟨#[]⟩] 72)) := (Below.refl _ _).alloc (Nat.le_refl _) _
  have hk9 := heap_alloc_new w4 (.cells #[.string n1, .string ⟨#[]⟩, .string ⟨#[]⟩] 72)
  have hps := HPw4.out.below hbel
  have hb9 := HBw4.out.trans (below_grownBy hbel (some p))
  obtain ⟨gC, hggC⟩ : ∃ g, w4.heap.size = g := ⟨_, rfl⟩
  have HLgC : Aside0 (w.heap.size ≤ gC) := ⟨by rw [← hggC]; exact HBw4.out.size⟩
  have HNgC : Aside0 (gC ≠ p) := ⟨by rw [← hggC]; exact fun e => by have := HPw4.out.lt; omega⟩
  have HWgC : Aside0 (w0.heap.size ≤ gC) := ⟨by rw [← hggC]; exact HPw4.out.bel.size⟩
  obtain ⟨w5, hw9⟩ : ∃ x, w4.alloc (.cells #[.string n1, .string ⟨#[]⟩, .string ⟨#[]⟩] 72) = x := ⟨_, rfl⟩
  rw [hggC] at hk9
  rw [hw9] at hps hb9 hk9 ⊢
  have HPw5 := Aside0.mk hps
  have HBw5 := Aside0.mk hb9
  have HgCw5 := Aside0.mk hk9
  simp only [hggC]
  clear hw9 hps hb9 hk9 hbel hggC  HPw4 HBw4 
  go_wp2_with fail
  refine (qmust w0 w5 p a1 HPw5 c_po ⟨by decide⟩ a2 Aa2).mono ?_
  rintro e w6 ⟨rfl, HPw6, hb9⟩
  have HBw6 := Aside0.mk (HBw5.out.trans hb9.out)
  have HgCw6 := Aside0.mk (grown_block hb9.out HgCw5.out HNgC.out)
  clear hb9 HPw5 HBw5 HgCw5
  go_wp2_with fail
  refine (qname w0 w6 p a2 HPw6 n2 An2 a3 Aa3).mono ?_
  rintro e w7 ⟨rfl, HPw7, hb9⟩
  have HBw7 := Aside0.mk (HBw6.out.trans hb9.out)
  have HgCw7 := Aside0.mk (grown_block hb9.out HgCw6.out HNgC.out)
  clear hb9 HPw6 HBw6 HgCw6
  have zgC1 : w7.cell? ⟨gC, 1, none⟩ = some (.string ⟨#[]⟩) := blk_cell HgCw7.out 1
  have hfzgC := fun i => blk_frozen HgCw7.out i
  go_upto_region 21 with fail
  change Code.wp _ _ _ _ (w7.setCell ⟨gC, 1, none⟩ (.string n2))
  have hps := (HPw7.out.far HNgC.out HWgC.out 1 (.string n2))
  have hb9 := (grown_far HBw7.out HLgC.out 1 (.string n2))
  have hk9 := (blk_set HgCw7.out 1 (.string n2))
  simp only [List.setIfInBounds_toArray, List.set_cons_zero, List.set_cons_succ] at hk9
  obtain ⟨w8, hw9⟩ : ∃ x, (w7.setCell ⟨gC, 1, none⟩ (.string n2)) = x := ⟨_, rfl⟩
  rw [hw9] at hps hb9 hk9 ⊢
  have HPw8 := Aside0.mk hps
  have HBw8 := Aside0.mk hb9
  have HgCw8 := Aside0.mk hk9
  clear hw9 hps hb9 hk9  zgC1 hfzgC HPw7 HBw7 HgCw7
  go_wp2_with fail
  refine (qmust w0 w8 p a3 HPw8 c_pc ⟨by decide⟩ a4 Aa4).mono ?_
  rintro e w9 ⟨rfl, HPw9, hb9⟩
  have HBw9 := Aside0.mk (HBw8.out.trans hb9.out)
  have HgCw9 := Aside0.mk (grown_block hb9.out HgCw8.out HNgC.out)
  clear hb9 HPw8 HBw8 HgCw8
  go_wp2_with fail
  refine (qmust w0 w9 p a4 HPw9 w_returns ⟨by decide⟩ a5 Aa5).mono ?_
  rintro e w10 ⟨rfl, HPw10, hb9⟩
  have HBw10 := Aside0.mk (HBw9.out.trans hb9.out)
  have HgCw10 := Aside0.mk (grown_block hb9.out HgCw9.out HNgC.out)
  clear hb9 HPw9 HBw9 HgCw9
  go_wp2_with fail
  refine (qmust w0 w10 p a5 HPw10 c_po ⟨by decide⟩ a6 Aa6).mono ?_
  rintro e w11 ⟨rfl, HPw11, hb9⟩
  have HBw11 := Aside0.mk (HBw10.out.trans hb9.out)
  have HgCw11 := Aside0.mk (grown_block hb9.out HgCw10.out HNgC.out)
  clear hb9 HPw10 HBw10 HgCw10
  go_wp2_with fail
  refine (qname w0 w11 p a6 HPw11 n3 An3 a7 Aa7).mono ?_
  rintro e w12 ⟨rfl, HPw12, hb9⟩
  have HBw12 := Aside0.mk (HBw11.out.trans hb9.out)
  have HgCw12 := Aside0.mk (grown_block hb9.out HgCw11.out HNgC.out)
  clear hb9 HPw11 HBw11 HgCw11
  have zgC2 : w12.cell? ⟨gC, 2, none⟩ = some (.string ⟨#[]⟩) := blk_cell HgCw12.out 2
  have hfzgC := fun i => blk_frozen HgCw12.out i
  go_upto_region 25 with fail
  change Code.wp _ _ _ _ (w12.setCell ⟨gC, 2, none⟩ (.string n3))
  have hps := (HPw12.out.far HNgC.out HWgC.out 2 (.string n3))
  have hb9 := (grown_far HBw12.out HLgC.out 2 (.string n3))
  have hk9 := (blk_set HgCw12.out 2 (.string n3))
  simp only [List.setIfInBounds_toArray, List.set_cons_zero, List.set_cons_succ] at hk9
  obtain ⟨w13, hw9⟩ : ∃ x, (w12.setCell ⟨gC, 2, none⟩ (.string n3)) = x := ⟨_, rfl⟩
  rw [hw9] at hps hb9 hk9 ⊢
  have HPw13 := Aside0.mk hps
  have HBw13 := Aside0.mk hb9
  have HgCw13 := Aside0.mk hk9
  clear hw9 hps hb9 hk9  zgC2 hfzgC HPw12 HBw12 HgCw12
  go_wp2_with fail
  refine (qmust w0 w13 p a7 HPw13 c_pc ⟨by decide⟩ a8 Aa8).mono ?_
  rintro e w14 ⟨rfl, HPw14, hb9⟩
  have HBw14 := Aside0.mk (HBw13.out.trans hb9.out)
  have HgCw14 := Aside0.mk (grown_block hb9.out HgCw13.out HNgC.out)
  clear hb9 HPw13 HBw13 HgCw13
  go_wp2_with fail
  refine (qmust w0 w14 p a8 HPw14 c_semi ⟨by decide⟩ a9 Aa9).mono ?_
  rintro e w15 ⟨rfl, HPw15, hb9⟩
  have HBw15 := Aside0.mk (HBw14.out.trans hb9.out)
  have HgCw15 := Aside0.mk (grown_block hb9.out HgCw14.out HNgC.out)
  clear hb9 HPw14 HBw14 HgCw14
  go_upto_region 27 with fail
  have HgsW := Aside0.mk (grown_block HBw15.out Hgs.out HNgs.out)
  have HP2 := Aside0.mk (HPw15.out.below (Below.refl w15.heap.size w15).drew)
  have HB2 := Aside0.mk ((HBB.out.trans HBw15.out).trans (below_grownBy (Below.refl w15.heap.size w15).drew (some p)))
  have HM2 := Aside0.mk (Kd.R_below (qrow_call HM0.out H.out (by decide) HBw15.out) (Below.refl w15.heap.size w15).drew)
  have HE2 := Aside0.mk (Kd.R_below (qrow_call HE0.out H.out (by decide) HBw15.out) (Below.refl w15.heap.size w15).drew)
  have HT2 := Aside0.mk (Kd.R_below (qrow_call HT0.out H.out (by decide) HBw15.out) (Below.refl w15.heap.size w15).drew)
  have Hgs2 : Aside0 (w15.drew.heap[gs]? = _) := ⟨HgsW.out⟩
  have kf0 : w15.drew.cell? ⟨gC, 0, none⟩ = some (.string n1) := blk_cell HgCw15.out 0
  have kf1 : w15.drew.cell? ⟨gC, 1, none⟩ = some (.string n2) := blk_cell HgCw15.out 1
  have kf2 : w15.drew.cell? ⟨gC, 2, none⟩ = some (.string n3) := blk_cell HgCw15.out 2
  have kd9 : w15.drew.cell? ⟨gs, 3, none⟩ = some (.slice At xt.length ct) := blk_cell HgsW.out 3
  have k2A : (w15.alloc (.cells #[.string n1, .string n2, .string n3] 72)).cell? ⟨gs, 3, none⟩ = some (.slice At xt.length ct) := pw_cell_below ((Below.refl w15.heap.size w15).alloc (Nat.le_refl _) _) (blk_cell HgsW.out 3)
  have k2B : (w15.alloc (.cells #[.string n1, .string n2, .string n3] 72)).drew.cell? ⟨gs, 3, none⟩ = some (.slice At xt.length ct) := k2A
  have HOK : Aside0 (∀ k, w.heap.size ≤ k → True ∧ some k ≠ (Value.slice At xt.length ct).ownBlock) := ⟨fun k hk => ⟨trivial, fun e => by obtain ⟨inner, ho⟩ := Kd.R_own HT0.out; have := own_lt ho k e.symm; omega⟩⟩
  have HLW : Aside0 (wb.heap.size ≤ w.heap.size) := ⟨HBB.out.size⟩
  have HZ2 : Aside0 (w.heap.size ≤ w15.drew.heap.size) := ⟨HBw15.out.size⟩
  have hl1 : xt.length ≤ 20001 := by have := HLN.out; omega
  clear HPw15 HBw15 HgsW HgCw15
  go_region_law
    (first
      | (refine Kd.R_append_step k72 (w0 := w15.drew) (W := w15.drew) wb.heap.size rfl (.tmp 113) (.tmp 115) 25 72 (.agg #[.string ⟨#[]⟩, .string ⟨#[]⟩, .string ⟨#[]⟩]) 48 rfl Tryd.underlying25 infoMethod rfl (by decide) (by decide) (.slice At xt.length ct) (xt) (mS ⟨n1, n2, n3⟩) [.string n1, .string n2, .string n3] (fun _ => True) ((fun _ => False)) rfl rfl (k72_mkM _ _ _ (mS ⟨n1, n2, n3⟩)) (fun _ h => h.elim) (fun _ _ => trivial) HT2.out (Below.refl _ _) HB2.out.size (by omega) ?_; intro v5 wQ hr5 hb5 hg5 hat5; obtain ⟨A9, c9, rfl⟩ := Kd.R_slice hr5; obtain ⟨hp9, hf9⟩ := qapp_frame HP2.out HB2.out HWB.out HT2.out (by decide) hg5; have HP5 := Aside0.mk hp9; have HB5 := Aside0.mk hf9; have Hgs5 := Aside0.mk (blk_grown Hgs2.out hg5 (Kd.R_ne HT2.out Hgs2.out (by decide))); have HM5 := Aside0.mk (row_other HM2.out HT2.out (by decide) hg5); have HE5 := Aside0.mk (row_other HE2.out HT2.out (by decide) hg5); have HT5 := Aside0.mk hr5; have k59 : wQ.cell? ⟨gs, 3, none⟩ = some (.slice At xt.length ct) := blk_cell Hgs5.out 3; have z59 := blk_frozen Hgs5.out 3; have HZ5 := Aside0.mk hg5.size; clear hr5 hb5 hg5 hat5 hp9 hf9; go_simp))
  all_goals
    go_wp2_with fail
    go_end0
    have hps := HP5.out.far HNgs.out HWgs.out 3 (.slice A9 (xt ++ [mS ⟨n1, n2, n3⟩]).length c9)
    have hb9 := grown_far HB5.out HLgs.out 3 (.slice A9 (xt ++ [mS ⟨n1, n2, n3⟩]).length c9)
    have hk9 := blk_set Hgs5.out 3 (.slice A9 (xt ++ [mS ⟨n1, n2, n3⟩]).length c9)
    simp only [List.setIfInBounds_toArray, List.set_cons_zero, List.set_cons_succ] at hk9
    have hrM := row_far HM5.out Hgs5.out (by decide) 3 (.slice A9 (xt ++ [mS ⟨n1, n2, n3⟩]).length c9)
    have hrE := row_far HE5.out Hgs5.out (by decide) 3 (.slice A9 (xt ++ [mS ⟨n1, n2, n3⟩]).length c9)
    have hrT := row_far HT5.out Hgs5.out (by decide) 3 (.slice A9 (xt ++ [mS ⟨n1, n2, n3⟩]).length c9)
    have hsz : w.heap.size ≤ (wQ.setCell ⟨gs, 3, none⟩ (.slice A9 (xt ++ [mS ⟨n1, n2, n3⟩]).length c9)).heap.size := by rw [World.size_setCell]; exact Nat.le_trans HZ2.out HZ5.out
    have hsr := HSR.out.addT ⟨n1, n2, n3⟩ hsz
    simp only [List.length_append, List.length_cons, List.length_nil, Nat.zero_add] at hk9 hps hb9 hrM hrE hrT hsr
    exact ⟨rfl, Am, cm, Ae, ce, A9, c9, xm, xe, xt ++ [mS ⟨n1, n2, n3⟩], ⟨hps⟩, ⟨hb9⟩, ⟨by rw [List.length_append]; exact hk9⟩, ⟨hrM⟩, ⟨hrE⟩, ⟨by rw [List.length_append]; exact hrT⟩, ⟨hsr⟩, ⟨by have h9 := HLN.out; have hm9 := HMU9.out; simp only [List.length_append, List.length_cons, List.length_nil]; omega⟩⟩
end Go.Proofs.YtbfhglaaombglaaDoor
end
section
namespace Go.Proofs.YtbfhglaaombglaaDoor
set_option linter.unusedVariables false
set_option linter.unusedSimpArgs false
open Go.RowKit Go.Proofs.YtbfhglaaombglaaDoorW.PrintWords Go.Proofs.YtbfhglaaombglaaDoor.PIdlParses
set_option maxRecDepth 100000 in
set_option maxHeartbeats 8000000 in
theorem decl_message (w0 wb w : World) (p gs : Nat) (nm : ByteArray) (x : Sc) (st : St) (HDS : DS w0 wb w p gs nm x st) (HWB : Aside0 (w0.heap.size ≤ wb.heap.size)) (HLgs : Aside0 (wb.heap.size ≤ gs)) (HNgs : Aside0 (gs ≠ p)) (h1 : takesB w_message st = true) :
    Calls Tryd.prog 21 #[.pointer (some ⟨p, 0, none⟩), .pointer (some ⟨gs, 0, none⟩)] w fun e w' => e = .returned (.tuple #[]) ∧ DS w0 wb w' p gs nm { x with msgs := x.msgs ++ [messV (takesM w_message st)] } (messM (takesM w_message st)) := by
  obtain ⟨Am, cm, Ae, ce, At, ct, xm, xe, xt, H, HBB, Hgs, HM0, HE0, HT0, HSR, HLN⟩ := HDS
  have HWgs : Aside0 (w0.heap.size ≤ gs) := ⟨Nat.le_trans HWB.out HLgs.out⟩
  have HPw := H
  have HBw := Aside0.mk (World.grownBy.refl w (some p))
  have HW1 := Aside0.mk h1
  obtain ⟨t0, ht0⟩ : ∃ s, takesM w_message st = s := ⟨_, rfl⟩
  have HT9 : Aside0 ((st.1.tail, st.2) = t0) := ⟨by rw [← ht0, takesM, if_pos h1]⟩
  have hm1 := mu_takes h1
  have hm2 := mu_mess t0
  rw [ht0] at hm1 ⊢
  obtain ⟨s1, hs1⟩ : ∃ s, nameM t0 = s := ⟨_, rfl⟩
  obtain ⟨s2, hs2⟩ : ∃ s, need c_open s1 = s := ⟨_, rfl⟩
  obtain ⟨nm2, hnm⟩ : ∃ x, nameV t0 = x := ⟨_, rfl⟩
  obtain ⟨FF, RR, S6, hE⟩ : ∃ a b c, msgA [] [] s2 = (a, b, c) := ⟨_, _, _, rfl⟩
  have hV : messV t0 = ⟨nm2, FF, RR⟩ := by rw [messV]; simp only [hs1, hs2, hE, hnm]
  have hS : messM t0 = S6 := by rw [messM, hs1, hs2, hE]
  rw [hS] at hm2
  rw [hV, hS]
  have HMU9 : Aside0 (mu S6 + 1 ≤ mu st) := ⟨by omega⟩
  have hmu0 : mu s2 ≤ 20001 := by have h8 := mu_name t0; have h9 := mu_need c_open s1; rw [hs1] at h8; rw [hs2] at h9; have h7 := HLN.out; omega
  have As1 := Aside0.mk hs1
  have As2 := Aside0.mk hs2
  have Anm := Aside0.mk hnm
  have HEA := Aside0.mk hE
  clear hs1 hs2 hnm hE hV hS hm1 hm2 ht0
  go_enter Tryd.func21, Tryd.ntmps21
  go_wp2_with fail
  refine (qis_yes w0 w p st HPw w_message ⟨by decide⟩ HW1 t0 HT9).mono ?_
  rintro e w1 ⟨rfl, HPw1, hb9⟩
  have HBw1 := Aside0.mk (HBw.out.trans hb9.out)
  clear hb9 HPw HBw 
  go_wp2_with fail
  refine (qname w0 w1 p t0 HPw1 nm2 Anm s1 As1).mono ?_
  rintro e w2 ⟨rfl, HPw2, hb9⟩
  have HBw2 := Aside0.mk (HBw1.out.trans hb9.out)
  clear hb9 HPw1 HBw1 
  go_upto_region 3 with fail
  change Code.wp _ _ _ _ (w2.alloc (.cells #[.string nm2, .slice none 0 0, .slice none 0 0] 45))
  have hbel : Below w2.heap.size w2 (w2.alloc (.cells #[.string nm2, .slice none 0 0, .slice none 0 0] 45)) := (Below.refl _ _).alloc (Nat.le_refl _) _
  have hk9 := heap_alloc_new w2 (.cells #[.string nm2, .slice none 0 0, .slice none 0 0] 45)
  have hps := HPw2.out.below hbel
  have hb9 := HBw2.out.trans (below_grownBy hbel (some p))
  obtain ⟨gX, hggX⟩ : ∃ g, w2.heap.size = g := ⟨_, rfl⟩
  have HLgX : Aside0 (w.heap.size ≤ gX) := ⟨by rw [← hggX]; exact HBw2.out.size⟩
  have HNgX : Aside0 (gX ≠ p) := ⟨by rw [← hggX]; exact fun e => by have := HPw2.out.lt; omega⟩
  have HWgX : Aside0 (w0.heap.size ≤ gX) := ⟨by rw [← hggX]; exact HPw2.out.bel.size⟩
  obtain ⟨w3, hw9⟩ : ∃ x, w2.alloc (.cells #[.string nm2, .slice none 0 0, .slice none 0 0] 45) = x := ⟨_, rfl⟩
  rw [hggX] at hk9
  rw [hw9] at hps hb9 hk9 ⊢
  have HPw3 := Aside0.mk hps
  have HBw3 := Aside0.mk hb9
  have HgXw3 := Aside0.mk hk9
  simp only [hggX]
  clear hw9 hps hb9 hk9 hbel hggX  HPw2 HBw2 
  go_wp2_with fail
  refine (qmust w0 w3 p s1 HPw3 c_open ⟨by decide⟩ s2 As2).mono ?_
  rintro e w4 ⟨rfl, HPw4, hb9⟩
  have HBw4 := Aside0.mk (HBw3.out.trans hb9.out)
  have HgXw4 := Aside0.mk (grown_block hb9.out HgXw3.out HNgX.out)
  clear hb9 HPw3 HBw3 HgXw3
  go_wp2_with fail
  go_loopw [] (fun wr => ∃ (f : List Fd) (q : List S43) (r : List Nat) (ri : List Int) (s : St) (A : Option Addr) (c : Nat) (Ar : Option Addr) (cr : Nat), Aside0 (f.map rS = q) ∧ Aside0 (nums_ r = ri) ∧ Aside0 (msgA f r s = (FF, RR, S6)) ∧ q.length + mu s ≤ 20001 ∧ ri.length + mu s ≤ 20001 ∧ Aside0 (PQ w0 wr p s) ∧ Aside0 (w.grownBy wr (some p)) ∧ Aside0 (wr.heap[gX]? = some (.cells #[.string nm2, .slice A q.length c, .slice Ar ri.length cr] 45 (0, 0))) ∧ Aside0 (k43.R 43 wr w.heap.size (fun _ => True) (.slice A q.length c) (q)) ∧ Aside0 ((Kd.int .i64).R 3 wr w.heap.size (fun _ => True) (.slice Ar ri.length cr) (ri))) (fun wr => muR wr p)
  case atStart => exact ⟨[], [], [], [], s2, none, 0, none, 0, ⟨rfl⟩, ⟨rfl⟩, HEA, by simpa using hmu0, by simpa using hmu0, HPw4, HBw4, HgXw4, ⟨Kd.R_nil _ _ _ _ _⟩, ⟨Kd.R_nil _ _ _ _ _⟩⟩
  case round =>
    clear HEA hmu0 HPw4 HBw4 HgXw4
    obtain ⟨f, q, r, ri, s, A, c, Ar, cr, HFQ, HRQ, HEA, hls, hlr, HPwr, HBwr, HgXwr, HFwr, HNwr⟩ := hrel
    obtain ⟨wo, hwo⟩ : ∃ x, x = wr := ⟨_, rfl⟩
    subst hwo
    have HPwo := HPwr
    have HBwo := HBwr
    have HgXwo := HgXwr
    have HFwo := HFwr
    have HNwo := HNwr
    clear HPwr HBwr HgXwr HFwr HNwr
    have HMX := Aside0.mk HPwo.out.mu
    obtain ⟨u9, v9, hk9⟩ := HPwo.out.bad9
    have c2 : wo.cell? ⟨p, 2, none⟩ = some (.bool s.2) := blk_cell hk9 2
    clear hk9
    cases hb : s.2 with
    | true =>
      rw [hb] at c2
      have hE2 := HEA.out
      rw [msgA_done f r s hb] at hE2
      obtain ⟨rfl, hE3⟩ := Prod.mk.inj hE2
      obtain ⟨rfl, rfl⟩ := Prod.mk.inj hE3
      clear hE2 hE3 hb HEA
      go_upto_region 6 with fail
      have HgsW := Aside0.mk (grown_block HBwo.out Hgs.out HNgs.out)
      have HP2 := Aside0.mk (HPwo.out.below (Below.refl wo.heap.size wo).drew)
      have HB2 := Aside0.mk ((HBB.out.trans HBwo.out).trans (below_grownBy (Below.refl wo.heap.size wo).drew (some p)))
      have HM2 := Aside0.mk (Kd.R_below (qrow_call HM0.out H.out (by decide) HBwo.out) (Below.refl wo.heap.size wo).drew)
      have HE2 := Aside0.mk (Kd.R_below (qrow_call HE0.out H.out (by decide) HBwo.out) (Below.refl wo.heap.size wo).drew)
      have HT2 := Aside0.mk (Kd.R_below (qrow_call HT0.out H.out (by decide) HBwo.out) (Below.refl wo.heap.size wo).drew)
      have Hgs2 : Aside0 (wo.drew.heap[gs]? = _) := ⟨HgsW.out⟩
      have kf0 : wo.drew.cell? ⟨gX, 0, none⟩ = some (.string nm2) := blk_cell HgXwo.out 0
      have kf1 : wo.drew.cell? ⟨gX, 1, none⟩ = some (.slice A q.length c) := blk_cell HgXwo.out 1
      have kf2 : wo.drew.cell? ⟨gX, 2, none⟩ = some (.slice Ar ri.length cr) := blk_cell HgXwo.out 2
      have kd9 : wo.drew.cell? ⟨gs, 1, none⟩ = some (.slice Am xm.length cm) := blk_cell HgsW.out 1
      have k2A : (wo.alloc (.cells #[.string nm2, .slice A q.length c, .slice Ar ri.length cr] 45)).cell? ⟨gs, 1, none⟩ = some (.slice Am xm.length cm) := pw_cell_below ((Below.refl wo.heap.size wo).alloc (Nat.le_refl _) _) (blk_cell HgsW.out 1)
      have k2B : (wo.alloc (.cells #[.string nm2, .slice A q.length c, .slice Ar ri.length cr] 45)).drew.cell? ⟨gs, 1, none⟩ = some (.slice Am xm.length cm) := k2A
      have HOK : Aside0 (∀ k, w.heap.size ≤ k → True ∧ some k ≠ (Value.slice Am xm.length cm).ownBlock) := ⟨fun k hk => ⟨trivial, fun e => by obtain ⟨inner, ho⟩ := Kd.R_own HM0.out; have := own_lt ho k e.symm; omega⟩⟩
      have HLW : Aside0 (wb.heap.size ≤ w.heap.size) := ⟨HBB.out.size⟩
      have HZ2 : Aside0 (w.heap.size ≤ wo.drew.heap.size) := ⟨HBwo.out.size⟩
      have hl1 : xm.length ≤ 20001 := by have := HLN.out; omega
      have hm9 : gSr ⟨nm2, f, r⟩ = ⟨nm2, q, ri⟩ := by rw [← HFQ.out, ← HRQ.out]; rfl
      have HMM : Aside0 (k45.M wo.drew w.heap.size (fun k => w.heap.size ≤ k ∧ k < wo.drew.heap.size) (gSr ⟨nm2, f, r⟩) [.string nm2, .slice A q.length c, .slice Ar ri.length cr]) := ⟨by rw [hm9]; exact k45_mkM _ _ _ ⟨nm2, q, ri⟩ (Kd.R_mono (Kd.R_bound (Kd.R_below HFwo.out (Below.refl wo.heap.size wo).drew)) (fun k hk => ⟨hk.2.1, hk.2.2.1⟩)) (Kd.R_mono (Kd.R_bound (Kd.R_below HNwo.out (Below.refl wo.heap.size wo).drew)) (fun k hk => ⟨hk.2.1, hk.2.2.1⟩))⟩
      have HEL := Aside0.mk (kI_mk (Kd.M_lower_ HMM.out HLW.out))
      clear hm9
      clear HPwo HBwo HgsW HgXwo HFwo HNwo
      go_region_law
        (first
          | (refine Kd.R_append_step kI (w0 := wo.drew) (W := wo.drew) wb.heap.size rfl (.tmp 35) (.tmp 37) 23 45 (.agg #[.string ⟨#[]⟩, .slice none 0 0, .slice none 0 0]) 64 rfl Tryd.underlying23 infoMessage rfl (by decide) (by decide) (.slice Am xm.length cm) (xm) ((gSr ⟨nm2, f, r⟩, w.heap.size, wo.drew.heap.size)) [.string nm2, .slice A q.length c, .slice Ar ri.length cr] (fun _ => True) ((fun k => w.heap.size ≤ k)) rfl rfl HEL.out (fun k hk => HOK.out k hk) (fun _ _ => trivial) HM2.out (Below.refl _ _) HB2.out.size (by omega) ?_; intro v5 wQ hr5 hb5 hg5 hat5; obtain ⟨A9, c9, rfl⟩ := Kd.R_slice hr5; obtain ⟨hp9, hf9⟩ := qapp_frame HP2.out HB2.out HWB.out HM2.out (by decide) hg5; have HP5 := Aside0.mk hp9; have HB5 := Aside0.mk hf9; have Hgs5 := Aside0.mk (blk_grown Hgs2.out hg5 (Kd.R_ne HM2.out Hgs2.out (by decide))); have HE5 := Aside0.mk (row_other HE2.out HM2.out (by decide) hg5); have HT5 := Aside0.mk (row_other HT2.out HM2.out (by decide) hg5); have HM5 := Aside0.mk hr5; have k59 : wQ.cell? ⟨gs, 1, none⟩ = some (.slice Am xm.length cm) := blk_cell Hgs5.out 1; have z59 := blk_frozen Hgs5.out 1; have HZ5 := Aside0.mk hg5.size; clear hr5 hb5 hg5 hat5 hp9 hf9; go_simp))
      all_goals
        go_wp2_with fail
        go_end0
        have hps := HP5.out.far HNgs.out HWgs.out 1 (.slice A9 (xm ++ [(gSr ⟨nm2, f, r⟩, w.heap.size, wo.drew.heap.size)]).length c9)
        have hb9 := grown_far HB5.out HLgs.out 1 (.slice A9 (xm ++ [(gSr ⟨nm2, f, r⟩, w.heap.size, wo.drew.heap.size)]).length c9)
        have hk9 := blk_set Hgs5.out 1 (.slice A9 (xm ++ [(gSr ⟨nm2, f, r⟩, w.heap.size, wo.drew.heap.size)]).length c9)
        simp only [List.setIfInBounds_toArray, List.set_cons_zero, List.set_cons_succ] at hk9
        have hrM := row_far HM5.out Hgs5.out (by decide) 1 (.slice A9 (xm ++ [(gSr ⟨nm2, f, r⟩, w.heap.size, wo.drew.heap.size)]).length c9)
        have hrE := row_far HE5.out Hgs5.out (by decide) 1 (.slice A9 (xm ++ [(gSr ⟨nm2, f, r⟩, w.heap.size, wo.drew.heap.size)]).length c9)
        have hrT := row_far HT5.out Hgs5.out (by decide) 1 (.slice A9 (xm ++ [(gSr ⟨nm2, f, r⟩, w.heap.size, wo.drew.heap.size)]).length c9)
        have hsz : w.heap.size ≤ (wQ.setCell ⟨gs, 1, none⟩ (.slice A9 (xm ++ [(gSr ⟨nm2, f, r⟩, w.heap.size, wo.drew.heap.size)]).length c9)).heap.size := by rw [World.size_setCell]; exact Nat.le_trans HZ2.out HZ5.out
        have hsr := HSR.out.addM ⟨nm2, f, r⟩ w.heap.size wo.drew.heap.size (Nat.le_refl _) (by rw [World.size_setCell]; exact HZ5.out) hsz
        simp only [List.length_append, List.length_cons, List.length_nil, Nat.zero_add] at hk9 hps hb9 hrM hrE hrT hsr
        exact ⟨rfl, A9, c9, Ae, ce, At, ct, xm ++ [(gSr ⟨nm2, f, r⟩, w.heap.size, wo.drew.heap.size)], xe, xt, ⟨hps⟩, ⟨hb9⟩, ⟨by rw [List.length_append]; exact hk9⟩, ⟨by rw [List.length_append]; exact hrM⟩, ⟨hrE⟩, ⟨hrT⟩, ⟨hsr⟩, ⟨by have h9 := HLN.out; have hm9 := HMU9.out; simp only [List.length_append, List.length_cons, List.length_nil]; omega⟩⟩
    | false =>
      rw [hb] at c2
      cases ht : takesB c_close s with
      | true =>
        have HT := Aside0.mk ht
        have hE2 := HEA.out
        rw [msgA_close f r s ht, takesM, if_pos ht] at hE2
        obtain ⟨rfl, hE3⟩ := Prod.mk.inj hE2
        obtain ⟨rfl, hS6⟩ := Prod.mk.inj hE3
        have HS6 := Aside0.mk hS6
        clear hE2 hE3 hb ht hS6 HEA
        go_wp2_with fail
        refine (qis_yes w0 wo p s HPwo c_close ⟨by decide⟩ HT S6 HS6).mono ?_
        rintro e w5 ⟨rfl, HPw5, hb9⟩
        have HBw5 := Aside0.mk (HBwo.out.trans hb9.out)
        have HgXw5 := Aside0.mk (grown_block hb9.out HgXwo.out HNgX.out)
        have HFw5 := Aside0.mk (qrow_call HFwo.out HPwo.out (by decide) hb9.out)
        have HNw5 := Aside0.mk (qrow_call HNwo.out HPwo.out (by decide) hb9.out)
        clear hb9 HPwo HBwo HgXwo HFwo HNwo
        go_upto_region 6 with fail
        have HgsW := Aside0.mk (grown_block HBw5.out Hgs.out HNgs.out)
        have HP2 := Aside0.mk (HPw5.out.below (Below.refl w5.heap.size w5).drew)
        have HB2 := Aside0.mk ((HBB.out.trans HBw5.out).trans (below_grownBy (Below.refl w5.heap.size w5).drew (some p)))
        have HM2 := Aside0.mk (Kd.R_below (qrow_call HM0.out H.out (by decide) HBw5.out) (Below.refl w5.heap.size w5).drew)
        have HE2 := Aside0.mk (Kd.R_below (qrow_call HE0.out H.out (by decide) HBw5.out) (Below.refl w5.heap.size w5).drew)
        have HT2 := Aside0.mk (Kd.R_below (qrow_call HT0.out H.out (by decide) HBw5.out) (Below.refl w5.heap.size w5).drew)
        have Hgs2 : Aside0 (w5.drew.heap[gs]? = _) := ⟨HgsW.out⟩
        have kf0 : w5.drew.cell? ⟨gX, 0, none⟩ = some (.string nm2) := blk_cell HgXw5.out 0
        have kf1 : w5.drew.cell? ⟨gX, 1, none⟩ = some (.slice A q.length c) := blk_cell HgXw5.out 1
        have kf2 : w5.drew.cell? ⟨gX, 2, none⟩ = some (.slice Ar ri.length cr) := blk_cell HgXw5.out 2
        have kd9 : w5.drew.cell? ⟨gs, 1, none⟩ = some (.slice Am xm.length cm) := blk_cell HgsW.out 1
        have k2A : (w5.alloc (.cells #[.string nm2, .slice A q.length c, .slice Ar ri.length cr] 45)).cell? ⟨gs, 1, none⟩ = some (.slice Am xm.length cm) := pw_cell_below ((Below.refl w5.heap.size w5).alloc (Nat.le_refl _) _) (blk_cell HgsW.out 1)
        have k2B : (w5.alloc (.cells #[.string nm2, .slice A q.length c, .slice Ar ri.length cr] 45)).drew.cell? ⟨gs, 1, none⟩ = some (.slice Am xm.length cm) := k2A
        have HOK : Aside0 (∀ k, w.heap.size ≤ k → True ∧ some k ≠ (Value.slice Am xm.length cm).ownBlock) := ⟨fun k hk => ⟨trivial, fun e => by obtain ⟨inner, ho⟩ := Kd.R_own HM0.out; have := own_lt ho k e.symm; omega⟩⟩
        have HLW : Aside0 (wb.heap.size ≤ w.heap.size) := ⟨HBB.out.size⟩
        have HZ2 : Aside0 (w.heap.size ≤ w5.drew.heap.size) := ⟨HBw5.out.size⟩
        have hl1 : xm.length ≤ 20001 := by have := HLN.out; omega
        have hm9 : gSr ⟨nm2, f, r⟩ = ⟨nm2, q, ri⟩ := by rw [← HFQ.out, ← HRQ.out]; rfl
        have HMM : Aside0 (k45.M w5.drew w.heap.size (fun k => w.heap.size ≤ k ∧ k < w5.drew.heap.size) (gSr ⟨nm2, f, r⟩) [.string nm2, .slice A q.length c, .slice Ar ri.length cr]) := ⟨by rw [hm9]; exact k45_mkM _ _ _ ⟨nm2, q, ri⟩ (Kd.R_mono (Kd.R_bound (Kd.R_below HFw5.out (Below.refl w5.heap.size w5).drew)) (fun k hk => ⟨hk.2.1, hk.2.2.1⟩)) (Kd.R_mono (Kd.R_bound (Kd.R_below HNw5.out (Below.refl w5.heap.size w5).drew)) (fun k hk => ⟨hk.2.1, hk.2.2.1⟩))⟩
        have HEL := Aside0.mk (kI_mk (Kd.M_lower_ HMM.out HLW.out))
        clear hm9
        clear HPw5 HBw5 HgsW HgXw5 HFw5 HNw5
        go_region_law
          (first
            | (refine Kd.R_append_step kI (w0 := w5.drew) (W := w5.drew) wb.heap.size rfl (.tmp 35) (.tmp 37) 23 45 (.agg #[.string ⟨#[]⟩, .slice none 0 0, .slice none 0 0]) 64 rfl Tryd.underlying23 infoMessage rfl (by decide) (by decide) (.slice Am xm.length cm) (xm) ((gSr ⟨nm2, f, r⟩, w.heap.size, w5.drew.heap.size)) [.string nm2, .slice A q.length c, .slice Ar ri.length cr] (fun _ => True) ((fun k => w.heap.size ≤ k)) rfl rfl HEL.out (fun k hk => HOK.out k hk) (fun _ _ => trivial) HM2.out (Below.refl _ _) HB2.out.size (by omega) ?_; intro v5 wQ hr5 hb5 hg5 hat5; obtain ⟨A9, c9, rfl⟩ := Kd.R_slice hr5; obtain ⟨hp9, hf9⟩ := qapp_frame HP2.out HB2.out HWB.out HM2.out (by decide) hg5; have HP5 := Aside0.mk hp9; have HB5 := Aside0.mk hf9; have Hgs5 := Aside0.mk (blk_grown Hgs2.out hg5 (Kd.R_ne HM2.out Hgs2.out (by decide))); have HE5 := Aside0.mk (row_other HE2.out HM2.out (by decide) hg5); have HT5 := Aside0.mk (row_other HT2.out HM2.out (by decide) hg5); have HM5 := Aside0.mk hr5; have k59 : wQ.cell? ⟨gs, 1, none⟩ = some (.slice Am xm.length cm) := blk_cell Hgs5.out 1; have z59 := blk_frozen Hgs5.out 1; have HZ5 := Aside0.mk hg5.size; clear hr5 hb5 hg5 hat5 hp9 hf9; go_simp))
        all_goals
          go_wp2_with fail
          go_end0
          have hps := HP5.out.far HNgs.out HWgs.out 1 (.slice A9 (xm ++ [(gSr ⟨nm2, f, r⟩, w.heap.size, w5.drew.heap.size)]).length c9)
          have hb9 := grown_far HB5.out HLgs.out 1 (.slice A9 (xm ++ [(gSr ⟨nm2, f, r⟩, w.heap.size, w5.drew.heap.size)]).length c9)
          have hk9 := blk_set Hgs5.out 1 (.slice A9 (xm ++ [(gSr ⟨nm2, f, r⟩, w.heap.size, w5.drew.heap.size)]).length c9)
          simp only [List.setIfInBounds_toArray, List.set_cons_zero, List.set_cons_succ] at hk9
          have hrM := row_far HM5.out Hgs5.out (by decide) 1 (.slice A9 (xm ++ [(gSr ⟨nm2, f, r⟩, w.heap.size, w5.drew.heap.size)]).length c9)
          have hrE := row_far HE5.out Hgs5.out (by decide) 1 (.slice A9 (xm ++ [(gSr ⟨nm2, f, r⟩, w.heap.size, w5.drew.heap.size)]).length c9)
          have hrT := row_far HT5.out Hgs5.out (by decide) 1 (.slice A9 (xm ++ [(gSr ⟨nm2, f, r⟩, w.heap.size, w5.drew.heap.size)]).length c9)
          have hsz : w.heap.size ≤ (wQ.setCell ⟨gs, 1, none⟩ (.slice A9 (xm ++ [(gSr ⟨nm2, f, r⟩, w.heap.size, w5.drew.heap.size)]).length c9)).heap.size := by rw [World.size_setCell]; exact Nat.le_trans HZ2.out HZ5.out
          have hsr := HSR.out.addM ⟨nm2, f, r⟩ w.heap.size w5.drew.heap.size (Nat.le_refl _) (by rw [World.size_setCell]; exact HZ5.out) hsz
          simp only [List.length_append, List.length_cons, List.length_nil, Nat.zero_add] at hk9 hps hb9 hrM hrE hrT hsr
          exact ⟨rfl, A9, c9, Ae, ce, At, ct, xm ++ [(gSr ⟨nm2, f, r⟩, w.heap.size, w5.drew.heap.size)], xe, xt, ⟨hps⟩, ⟨hb9⟩, ⟨by rw [List.length_append]; exact hk9⟩, ⟨by rw [List.length_append]; exact hrM⟩, ⟨hrE⟩, ⟨hrT⟩, ⟨hsr⟩, ⟨by have h9 := HLN.out; have hm9 := HMU9.out; simp only [List.length_append, List.length_cons, List.length_nil]; omega⟩⟩
      | false =>
        have HT := Aside0.mk ht
        obtain ⟨F2, R2, S2, hme⟩ : ∃ a b c, memS f r s = (a, b, c) := ⟨_, _, _, rfl⟩
        have hq9 := mem_mu f r s hb
        have hE2 := HEA.out
        rw [msgA_mem f r s hb ht, hme] at hE2
        rw [hme] at hq9
        simp only at hq9 hE2
        have hlf : q.length = f.length := by rw [← HFQ.out, List.length_map]
        have hlr2 : ri.length = r.length := by rw [← HRQ.out, nums_, List.length_map]
        have HQ9 : Aside0 (mu S2 < mu s ∧ (F2.map rS).length + mu S2 ≤ 20001 ∧ (nums_ R2).length + mu S2 ≤ 20001) := ⟨by rw [nums_, List.length_map, List.length_map]; omega⟩
        have HE2 := Aside0.mk hE2
        have HME := Aside0.mk hme
        clear hq9 hE2 hme ht hb HEA hlf hlr2
        go_wp2_with fail
        refine (qis_no w0 wo p s HPwo c_close ⟨by decide⟩ HT).mono ?_
        rintro e w6 ⟨rfl, HPw6, hb9⟩
        have HBw6 := Aside0.mk (HBwo.out.trans hb9.out)
        have HgXw6 := Aside0.mk (grown_block hb9.out HgXwo.out HNgX.out)
        have HFw6 := Aside0.mk (qrow_call HFwo.out HPwo.out (by decide) hb9.out)
        have HNw6 := Aside0.mk (qrow_call HNwo.out HPwo.out (by decide) hb9.out)
        clear hb9 HPwo HBwo HgXwo HFwo HNwo
        clear c2
        go_wp2_with fail
        refine (member_any w0 w w6 p gX st s H HPw6 HBw6 HLgX HNgX nm2 A c Ar cr q ri HgXw6 HFw6 HNw6 f r HFQ HRQ hls hlr F2 R2 S2 HME).mono ?_
        rintro e w9 ⟨A9, c9, Ar9, cr9, rfl, HP9, HB9, HgX9, HF9, HN9⟩
        have HMY := Aside0.mk HP9.out.mu
        go_wp2_with fail
        go_roundw
        case rel => exact ⟨F2, F2.map rS, R2, nums_ R2, S2, A9, c9, Ar9, cr9, ⟨rfl⟩, ⟨rfl⟩, HE2, HQ9.out.2.1, HQ9.out.2.2, HP9, HB9, HgX9, HF9, HN9⟩
        case measure => rw [HMY.out, HMX.out]; exact HQ9.out.1
end Go.Proofs.YtbfhglaaombglaaDoor
end
section
namespace Go.Proofs.YtbfhglaaombglaaDoor
set_option linter.unusedVariables false
set_option linter.unusedSimpArgs false
open Go.RowKit Go.Proofs.YtbfhglaaombglaaDoorW.PrintWords Go.Proofs.YtbfhglaaombglaaDoor.PIdlParses
set_option maxRecDepth 100000 in
set_option maxHeartbeats 8000000 in
theorem decl_enum (w0 wb w : World) (p gs : Nat) (nm : ByteArray) (x : Sc) (st : St) (HDS : DS w0 wb w p gs nm x st) (HWB : Aside0 (w0.heap.size ≤ wb.heap.size)) (HLgs : Aside0 (wb.heap.size ≤ gs)) (HNgs : Aside0 (gs ≠ p)) (h1 : takesB w_message st = false) (h2 : takesB w_enum st = true) :
    Calls Tryd.prog 21 #[.pointer (some ⟨p, 0, none⟩), .pointer (some ⟨gs, 0, none⟩)] w fun e w' => e = .returned (.tuple #[]) ∧ DS w0 wb w' p gs nm { x with enums := x.enums ++ [enumV (takesM w_enum st)] } (enumM (takesM w_enum st)) := by
  obtain ⟨Am, cm, Ae, ce, At, ct, xm, xe, xt, H, HBB, Hgs, HM0, HE0, HT0, HSR, HLN⟩ := HDS
  have HWgs : Aside0 (w0.heap.size ≤ gs) := ⟨Nat.le_trans HWB.out HLgs.out⟩
  have HPw := H
  have HBw := Aside0.mk (World.grownBy.refl w (some p))
  have HW1 := Aside0.mk h1
  have HW2 := Aside0.mk h2
  obtain ⟨t0, ht0⟩ : ∃ s, takesM w_enum st = s := ⟨_, rfl⟩
  have HT9 : Aside0 ((st.1.tail, st.2) = t0) := ⟨by rw [← ht0, takesM, if_pos h2]⟩
  have hm1 := mu_takes h2
  have hm2 := mu_enum t0
  rw [ht0] at hm1 ⊢
  obtain ⟨s1, hs1⟩ : ∃ s, nameM t0 = s := ⟨_, rfl⟩
  obtain ⟨s2, hs2⟩ : ∃ s, need c_open s1 = s := ⟨_, rfl⟩
  obtain ⟨nm2, hnm⟩ : ∃ x, nameV t0 = x := ⟨_, rfl⟩
  obtain ⟨LL, S6, hE⟩ : ∃ a b, enumA [] s2 = (a, b) := ⟨_, _, rfl⟩
  have hV : enumV t0 = ⟨nm2, LL⟩ := by rw [enumV, hs1, hs2, hE, hnm]
  have hS : enumM t0 = S6 := by rw [enumM, hs1, hs2, hE]
  rw [hS] at hm2
  rw [hV, hS]
  have HMU9 : Aside0 (mu S6 + 1 ≤ mu st) := ⟨by omega⟩
  have hmu0 : mu s2 ≤ 20001 := by have h8 := mu_name t0; have h9 := mu_need c_open s1; rw [hs1] at h8; rw [hs2] at h9; have h7 := HLN.out; omega
  have As1 := Aside0.mk hs1
  have As2 := Aside0.mk hs2
  have Anm := Aside0.mk hnm
  have HEA := Aside0.mk hE
  clear hs1 hs2 hnm hE hV hS hm1 hm2 ht0
  go_enter Tryd.func21, Tryd.ntmps21
  go_wp2_with fail
  refine (qis_no w0 w p st HPw w_message ⟨by decide⟩ HW1).mono ?_
  rintro e w1 ⟨rfl, HPw1, hb9⟩
  have HBw1 := Aside0.mk (HBw.out.trans hb9.out)
  clear hb9 HPw HBw 
  go_wp2_with fail
  refine (qis_yes w0 w1 p st HPw1 w_enum ⟨by decide⟩ HW2 t0 HT9).mono ?_
  rintro e w2 ⟨rfl, HPw2, hb9⟩
  have HBw2 := Aside0.mk (HBw1.out.trans hb9.out)
  clear hb9 HPw1 HBw1 
  go_wp2_with fail
  refine (qname w0 w2 p t0 HPw2 nm2 Anm s1 As1).mono ?_
  rintro e w3 ⟨rfl, HPw3, hb9⟩
  have HBw3 := Aside0.mk (HBw2.out.trans hb9.out)
  clear hb9 HPw2 HBw2 
  go_upto_region 9 with fail
  change Code.wp _ _ _ _ (w3.alloc (.cells #[.string nm2, .slice none 0 0] 68))
  have hbel : Below w3.heap.size w3 (w3.alloc (.cells #[.string nm2, .slice none 0 0] 68)) := (Below.refl _ _).alloc (Nat.le_refl _) _
  have hk9 := heap_alloc_new w3 (.cells #[.string nm2, .slice none 0 0] 68)
  have hps := HPw3.out.below hbel
  have hb9 := HBw3.out.trans (below_grownBy hbel (some p))
  obtain ⟨gX, hggX⟩ : ∃ g, w3.heap.size = g := ⟨_, rfl⟩
  have HLgX : Aside0 (w.heap.size ≤ gX) := ⟨by rw [← hggX]; exact HBw3.out.size⟩
  have HNgX : Aside0 (gX ≠ p) := ⟨by rw [← hggX]; exact fun e => by have := HPw3.out.lt; omega⟩
  have HWgX : Aside0 (w0.heap.size ≤ gX) := ⟨by rw [← hggX]; exact HPw3.out.bel.size⟩
  obtain ⟨w4, hw9⟩ : ∃ x, w3.alloc (.cells #[.string nm2, .slice none 0 0] 68) = x := ⟨_, rfl⟩
  rw [hggX] at hk9
  rw [hw9] at hps hb9 hk9 ⊢
  have HPw4 := Aside0.mk hps
  have HBw4 := Aside0.mk hb9
  have HgXw4 := Aside0.mk hk9
  simp only [hggX]
  clear hw9 hps hb9 hk9 hbel hggX  HPw3 HBw3 
  go_wp2_with fail
  refine (qmust w0 w4 p s1 HPw4 c_open ⟨by decide⟩ s2 As2).mono ?_
  rintro e w5 ⟨rfl, HPw5, hb9⟩
  have HBw5 := Aside0.mk (HBw4.out.trans hb9.out)
  have HgXw5 := Aside0.mk (grown_block hb9.out HgXw4.out HNgX.out)
  clear hb9 HPw4 HBw4 HgXw4
  go_wp2_with fail
  go_loopw [] (fun wr => ∃ (l : List (ByteArray × Nat)) (q : List S89) (s : St) (A : Option Addr) (c : Nat), Aside0 (l.map nS = q) ∧ Aside0 (enumA l s = (LL, S6)) ∧ q.length + mu s ≤ 20001 ∧ Aside0 (PQ w0 wr p s) ∧ Aside0 (w.grownBy wr (some p)) ∧ Aside0 (wr.heap[gX]? = some (.cells #[.string nm2, .slice A q.length c] 68 (0, 0))) ∧ Aside0 (k89.R 89 wr w.heap.size (fun _ => True) (.slice A q.length c) (q))) (fun wr => muR wr p)
  case atStart => exact ⟨[], [], s2, none, 0, ⟨rfl⟩, HEA, by simpa using hmu0, HPw5, HBw5, HgXw5, ⟨Kd.R_nil _ _ _ _ _⟩⟩
  case round =>
    clear HEA hmu0 HPw5 HBw5 HgXw5
    obtain ⟨l, q, s, A, c, HLQ, HEA, hls, HPwr, HBwr, HgXwr, HQwr⟩ := hrel
    obtain ⟨wo, hwo⟩ : ∃ x, x = wr := ⟨_, rfl⟩
    subst hwo
    have HPwo := HPwr
    have HBwo := HBwr
    have HgXwo := HgXwr
    have HQwo := HQwr
    clear HPwr HBwr HgXwr HQwr
    have HMX := Aside0.mk HPwo.out.mu
    obtain ⟨u9, v9, hk9⟩ := HPwo.out.bad9
    have c2 : wo.cell? ⟨p, 2, none⟩ = some (.bool s.2) := blk_cell hk9 2
    clear hk9
    cases hb : s.2 with
    | true =>
      rw [hb] at c2
      have hE2 := HEA.out
      rw [enumA_done l s hb] at hE2
      obtain ⟨rfl, rfl⟩ := Prod.mk.inj hE2
      clear hE2 hb HEA
      go_upto_region 16 with fail
      have HgsW := Aside0.mk (grown_block HBwo.out Hgs.out HNgs.out)
      have HP2 := Aside0.mk (HPwo.out.below (Below.refl wo.heap.size wo).drew)
      have HB2 := Aside0.mk ((HBB.out.trans HBwo.out).trans (below_grownBy (Below.refl wo.heap.size wo).drew (some p)))
      have HM2 := Aside0.mk (Kd.R_below (qrow_call HM0.out H.out (by decide) HBwo.out) (Below.refl wo.heap.size wo).drew)
      have HE2 := Aside0.mk (Kd.R_below (qrow_call HE0.out H.out (by decide) HBwo.out) (Below.refl wo.heap.size wo).drew)
      have HT2 := Aside0.mk (Kd.R_below (qrow_call HT0.out H.out (by decide) HBwo.out) (Below.refl wo.heap.size wo).drew)
      have Hgs2 : Aside0 (wo.drew.heap[gs]? = _) := ⟨HgsW.out⟩
      have kf0 : wo.drew.cell? ⟨gX, 0, none⟩ = some (.string nm2) := blk_cell HgXwo.out 0
      have kf1 : wo.drew.cell? ⟨gX, 1, none⟩ = some (.slice A q.length c) := blk_cell HgXwo.out 1
      have kd9 : wo.drew.cell? ⟨gs, 2, none⟩ = some (.slice Ae xe.length ce) := blk_cell HgsW.out 2
      have k2A : (wo.alloc (.cells #[.string nm2, .slice A q.length c] 68)).cell? ⟨gs, 2, none⟩ = some (.slice Ae xe.length ce) := pw_cell_below ((Below.refl wo.heap.size wo).alloc (Nat.le_refl _) _) (blk_cell HgsW.out 2)
      have k2B : (wo.alloc (.cells #[.string nm2, .slice A q.length c] 68)).drew.cell? ⟨gs, 2, none⟩ = some (.slice Ae xe.length ce) := k2A
      have HOK : Aside0 (∀ k, w.heap.size ≤ k → True ∧ some k ≠ (Value.slice Ae xe.length ce).ownBlock) := ⟨fun k hk => ⟨trivial, fun e => by obtain ⟨inner, ho⟩ := Kd.R_own HE0.out; have := own_lt ho k e.symm; omega⟩⟩
      have HLW : Aside0 (wb.heap.size ≤ w.heap.size) := ⟨HBB.out.size⟩
      have HZ2 : Aside0 (w.heap.size ≤ wo.drew.heap.size) := ⟨HBwo.out.size⟩
      have hl1 : xe.length ≤ 20001 := by have := HLN.out; omega
      have hm9 : eS ⟨nm2, l⟩ = ⟨nm2, q⟩ := by rw [← HLQ.out]; rfl
      have HMM : Aside0 (k68.M wo.drew w.heap.size (fun k => w.heap.size ≤ k) (eS ⟨nm2, l⟩) [.string nm2, .slice A q.length c]) := ⟨by rw [hm9]; exact k68_mkM _ _ _ ⟨nm2, q⟩ (Kd.R_mono (Kd.R_bound (Kd.R_below HQwo.out (Below.refl wo.heap.size wo).drew)) (fun k hk => hk.2.1))⟩
      have HEL := Aside0.mk (Kd.M_lower_ HMM.out HLW.out)
      clear hm9
      clear HPwo HBwo HgsW HgXwo HQwo
      go_region_law
        (first
          | (refine Kd.R_append_step k68 (w0 := wo.drew) (W := wo.drew) wb.heap.size rfl (.tmp 79) (.tmp 81) 24 68 (.agg #[.string ⟨#[]⟩, .slice none 0 0]) 40 rfl Tryd.underlying24 infoEnum rfl (by decide) (by decide) (.slice Ae xe.length ce) (xe) (eS ⟨nm2, l⟩) [.string nm2, .slice A q.length c] (fun _ => True) ((fun k => w.heap.size ≤ k)) rfl rfl HEL.out (fun k hk => HOK.out k hk) (fun _ _ => trivial) HE2.out (Below.refl _ _) HB2.out.size (by omega) ?_; intro v5 wQ hr5 hb5 hg5 hat5; obtain ⟨A9, c9, rfl⟩ := Kd.R_slice hr5; obtain ⟨hp9, hf9⟩ := qapp_frame HP2.out HB2.out HWB.out HE2.out (by decide) hg5; have HP5 := Aside0.mk hp9; have HB5 := Aside0.mk hf9; have Hgs5 := Aside0.mk (blk_grown Hgs2.out hg5 (Kd.R_ne HE2.out Hgs2.out (by decide))); have HM5 := Aside0.mk (row_other HM2.out HE2.out (by decide) hg5); have HT5 := Aside0.mk (row_other HT2.out HE2.out (by decide) hg5); have HE5 := Aside0.mk hr5; have k59 : wQ.cell? ⟨gs, 2, none⟩ = some (.slice Ae xe.length ce) := blk_cell Hgs5.out 2; have z59 := blk_frozen Hgs5.out 2; have HZ5 := Aside0.mk hg5.size; clear hr5 hb5 hg5 hat5 hp9 hf9; go_simp))
      all_goals
        go_wp2_with fail
        go_end0
        have hps := HP5.out.far HNgs.out HWgs.out 2 (.slice A9 (xe ++ [eS ⟨nm2, l⟩]).length c9)
        have hb9 := grown_far HB5.out HLgs.out 2 (.slice A9 (xe ++ [eS ⟨nm2, l⟩]).length c9)
        have hk9 := blk_set Hgs5.out 2 (.slice A9 (xe ++ [eS ⟨nm2, l⟩]).length c9)
        simp only [List.setIfInBounds_toArray, List.set_cons_zero, List.set_cons_succ] at hk9
        have hrM := row_far HM5.out Hgs5.out (by decide) 2 (.slice A9 (xe ++ [eS ⟨nm2, l⟩]).length c9)
        have hrE := row_far HE5.out Hgs5.out (by decide) 2 (.slice A9 (xe ++ [eS ⟨nm2, l⟩]).length c9)
        have hrT := row_far HT5.out Hgs5.out (by decide) 2 (.slice A9 (xe ++ [eS ⟨nm2, l⟩]).length c9)
        have hsz : w.heap.size ≤ (wQ.setCell ⟨gs, 2, none⟩ (.slice A9 (xe ++ [eS ⟨nm2, l⟩]).length c9)).heap.size := by rw [World.size_setCell]; exact Nat.le_trans HZ2.out HZ5.out
        have hsr := HSR.out.addE ⟨nm2, l⟩ hsz
        simp only [List.length_append, List.length_cons, List.length_nil, Nat.zero_add] at hk9 hps hb9 hrM hrE hrT hsr
        exact ⟨rfl, Am, cm, A9, c9, At, ct, xm, xe ++ [eS ⟨nm2, l⟩], xt, ⟨hps⟩, ⟨hb9⟩, ⟨by rw [List.length_append]; exact hk9⟩, ⟨hrM⟩, ⟨by rw [List.length_append]; exact hrE⟩, ⟨hrT⟩, ⟨hsr⟩, ⟨by have h9 := HLN.out; have hm9 := HMU9.out; simp only [List.length_append, List.length_cons, List.length_nil]; omega⟩⟩
    | false =>
      rw [hb] at c2
      cases ht : takesB c_close s with
      | true =>
        have HT := Aside0.mk ht
        have hE2 := HEA.out
        rw [enumA_close l s ht, takesM, if_pos ht] at hE2
        obtain ⟨rfl, hS6⟩ := Prod.mk.inj hE2
        have HS6 := Aside0.mk hS6
        clear hE2 hb ht hS6 HEA
        go_wp2_with fail
        refine (qis_yes w0 wo p s HPwo c_close ⟨by decide⟩ HT S6 HS6).mono ?_
        rintro e w6 ⟨rfl, HPw6, hb9⟩
        have HBw6 := Aside0.mk (HBwo.out.trans hb9.out)
        have HgXw6 := Aside0.mk (grown_block hb9.out HgXwo.out HNgX.out)
        have HQw6 := Aside0.mk (qrow_call HQwo.out HPwo.out (by decide) hb9.out)
        clear hb9 HPwo HBwo HgXwo HQwo
        go_upto_region 16 with fail
        have HgsW := Aside0.mk (grown_block HBw6.out Hgs.out HNgs.out)
        have HP2 := Aside0.mk (HPw6.out.below (Below.refl w6.heap.size w6).drew)
        have HB2 := Aside0.mk ((HBB.out.trans HBw6.out).trans (below_grownBy (Below.refl w6.heap.size w6).drew (some p)))
        have HM2 := Aside0.mk (Kd.R_below (qrow_call HM0.out H.out (by decide) HBw6.out) (Below.refl w6.heap.size w6).drew)
        have HE2 := Aside0.mk (Kd.R_below (qrow_call HE0.out H.out (by decide) HBw6.out) (Below.refl w6.heap.size w6).drew)
        have HT2 := Aside0.mk (Kd.R_below (qrow_call HT0.out H.out (by decide) HBw6.out) (Below.refl w6.heap.size w6).drew)
        have Hgs2 : Aside0 (w6.drew.heap[gs]? = _) := ⟨HgsW.out⟩
        have kf0 : w6.drew.cell? ⟨gX, 0, none⟩ = some (.string nm2) := blk_cell HgXw6.out 0
        have kf1 : w6.drew.cell? ⟨gX, 1, none⟩ = some (.slice A q.length c) := blk_cell HgXw6.out 1
        have kd9 : w6.drew.cell? ⟨gs, 2, none⟩ = some (.slice Ae xe.length ce) := blk_cell HgsW.out 2
        have k2A : (w6.alloc (.cells #[.string nm2, .slice A q.length c] 68)).cell? ⟨gs, 2, none⟩ = some (.slice Ae xe.length ce) := pw_cell_below ((Below.refl w6.heap.size w6).alloc (Nat.le_refl _) _) (blk_cell HgsW.out 2)
        have k2B : (w6.alloc (.cells #[.string nm2, .slice A q.length c] 68)).drew.cell? ⟨gs, 2, none⟩ = some (.slice Ae xe.length ce) := k2A
        have HOK : Aside0 (∀ k, w.heap.size ≤ k → True ∧ some k ≠ (Value.slice Ae xe.length ce).ownBlock) := ⟨fun k hk => ⟨trivial, fun e => by obtain ⟨inner, ho⟩ := Kd.R_own HE0.out; have := own_lt ho k e.symm; omega⟩⟩
        have HLW : Aside0 (wb.heap.size ≤ w.heap.size) := ⟨HBB.out.size⟩
        have HZ2 : Aside0 (w.heap.size ≤ w6.drew.heap.size) := ⟨HBw6.out.size⟩
        have hl1 : xe.length ≤ 20001 := by have := HLN.out; omega
        have hm9 : eS ⟨nm2, l⟩ = ⟨nm2, q⟩ := by rw [← HLQ.out]; rfl
        have HMM : Aside0 (k68.M w6.drew w.heap.size (fun k => w.heap.size ≤ k) (eS ⟨nm2, l⟩) [.string nm2, .slice A q.length c]) := ⟨by rw [hm9]; exact k68_mkM _ _ _ ⟨nm2, q⟩ (Kd.R_mono (Kd.R_bound (Kd.R_below HQw6.out (Below.refl w6.heap.size w6).drew)) (fun k hk => hk.2.1))⟩
        have HEL := Aside0.mk (Kd.M_lower_ HMM.out HLW.out)
        clear hm9
        clear HPw6 HBw6 HgsW HgXw6 HQw6
        go_region_law
          (first
            | (refine Kd.R_append_step k68 (w0 := w6.drew) (W := w6.drew) wb.heap.size rfl (.tmp 79) (.tmp 81) 24 68 (.agg #[.string ⟨#[]⟩, .slice none 0 0]) 40 rfl Tryd.underlying24 infoEnum rfl (by decide) (by decide) (.slice Ae xe.length ce) (xe) (eS ⟨nm2, l⟩) [.string nm2, .slice A q.length c] (fun _ => True) ((fun k => w.heap.size ≤ k)) rfl rfl HEL.out (fun k hk => HOK.out k hk) (fun _ _ => trivial) HE2.out (Below.refl _ _) HB2.out.size (by omega) ?_; intro v5 wQ hr5 hb5 hg5 hat5; obtain ⟨A9, c9, rfl⟩ := Kd.R_slice hr5; obtain ⟨hp9, hf9⟩ := qapp_frame HP2.out HB2.out HWB.out HE2.out (by decide) hg5; have HP5 := Aside0.mk hp9; have HB5 := Aside0.mk hf9; have Hgs5 := Aside0.mk (blk_grown Hgs2.out hg5 (Kd.R_ne HE2.out Hgs2.out (by decide))); have HM5 := Aside0.mk (row_other HM2.out HE2.out (by decide) hg5); have HT5 := Aside0.mk (row_other HT2.out HE2.out (by decide) hg5); have HE5 := Aside0.mk hr5; have k59 : wQ.cell? ⟨gs, 2, none⟩ = some (.slice Ae xe.length ce) := blk_cell Hgs5.out 2; have z59 := blk_frozen Hgs5.out 2; have HZ5 := Aside0.mk hg5.size; clear hr5 hb5 hg5 hat5 hp9 hf9; go_simp))
        all_goals
          go_wp2_with fail
          go_end0
          have hps := HP5.out.far HNgs.out HWgs.out 2 (.slice A9 (xe ++ [eS ⟨nm2, l⟩]).length c9)
          have hb9 := grown_far HB5.out HLgs.out 2 (.slice A9 (xe ++ [eS ⟨nm2, l⟩]).length c9)
          have hk9 := blk_set Hgs5.out 2 (.slice A9 (xe ++ [eS ⟨nm2, l⟩]).length c9)
          simp only [List.setIfInBounds_toArray, List.set_cons_zero, List.set_cons_succ] at hk9
          have hrM := row_far HM5.out Hgs5.out (by decide) 2 (.slice A9 (xe ++ [eS ⟨nm2, l⟩]).length c9)
          have hrE := row_far HE5.out Hgs5.out (by decide) 2 (.slice A9 (xe ++ [eS ⟨nm2, l⟩]).length c9)
          have hrT := row_far HT5.out Hgs5.out (by decide) 2 (.slice A9 (xe ++ [eS ⟨nm2, l⟩]).length c9)
          have hsz : w.heap.size ≤ (wQ.setCell ⟨gs, 2, none⟩ (.slice A9 (xe ++ [eS ⟨nm2, l⟩]).length c9)).heap.size := by rw [World.size_setCell]; exact Nat.le_trans HZ2.out HZ5.out
          have hsr := HSR.out.addE ⟨nm2, l⟩ hsz
          simp only [List.length_append, List.length_cons, List.length_nil, Nat.zero_add] at hk9 hps hb9 hrM hrE hrT hsr
          exact ⟨rfl, Am, cm, A9, c9, At, ct, xm, xe ++ [eS ⟨nm2, l⟩], xt, ⟨hps⟩, ⟨hb9⟩, ⟨by rw [List.length_append]; exact hk9⟩, ⟨hrM⟩, ⟨by rw [List.length_append]; exact hrE⟩, ⟨hrT⟩, ⟨hsr⟩, ⟨by have h9 := HLN.out; have hm9 := HMU9.out; simp only [List.length_append, List.length_cons, List.length_nil]; omega⟩⟩
      | false =>
        have HT := Aside0.mk ht
        have hm1 := mu_val s
        have hm2 := mu_pos hb
        have HE2 : Aside0 (enumA (l ++ [valV s]) (valM s) = (LL, S6)) := ⟨by rw [← enumA_val l s hb ht]; exact HEA.out⟩
        have hls2 : q.length + 1 + mu (valM s) ≤ 20001 := by omega
        have HMM : Aside0 (mu (valM s) < mu s) := ⟨by omega⟩
        obtain ⟨t1, ht1⟩ : ∃ x, nameM s = x := ⟨_, rfl⟩
        obtain ⟨t2, ht2⟩ : ∃ x, need c_eq t1 = x := ⟨_, rfl⟩
        obtain ⟨t3, ht3⟩ : ∃ x, numM t2 = x := ⟨_, rfl⟩
        obtain ⟨t4, ht4⟩ : ∃ x, need c_semi t3 = x := ⟨_, rfl⟩
        obtain ⟨n, hn⟩ : ∃ x, nameV s = x := ⟨_, rfl⟩
        obtain ⟨k, hk⟩ : ∃ x, numV t2 = x := ⟨_, rfl⟩
        have hvv : valV s = (n, k) := by rw [valV, ht1, ht2, hn, hk]
        have hvm : valM s = t4 := by rw [valM, ht1, ht2, ht3, ht4]
        rw [hvv, hvm] at HE2
        rw [hvm] at hls2 HMM
        have At1 := Aside0.mk ht1
        have At2 := Aside0.mk ht2
        have At3 := Aside0.mk ht3
        have At4 := Aside0.mk ht4
        have An := Aside0.mk hn
        have Ak := Aside0.mk hk
        have HLS := Aside0.mk hls2
        clear hvv hvm ht1 ht2 ht3 ht4 hn hk hm1 hm2 hb ht hls2 HEA
        go_wp2_with fail
        refine (qis_no w0 wo p s HPwo c_close ⟨by decide⟩ HT).mono ?_
        rintro e w7 ⟨rfl, HPw7, hb9⟩
        have HBw7 := Aside0.mk (HBwo.out.trans hb9.out)
        have HgXw7 := Aside0.mk (grown_block hb9.out HgXwo.out HNgX.out)
        have HQw7 := Aside0.mk (qrow_call HQwo.out HPwo.out (by decide) hb9.out)
        clear hb9 HPwo HBwo HgXwo HQwo
        clear c2
        go_wp2_with fail
        refine (qname w0 w7 p s HPw7 n An t1 At1).mono ?_
        rintro e w8 ⟨rfl, HPw8, hb9⟩
        have HBw8 := Aside0.mk (HBw7.out.trans hb9.out)
        have HgXw8 := Aside0.mk (grown_block hb9.out HgXw7.out HNgX.out)
        have HQw8 := Aside0.mk (qrow_call HQw7.out HPw7.out (by decide) hb9.out)
        clear hb9 HPw7 HBw7 HgXw7 HQw7
        go_upto_region 12 with fail
        change Code.wp _ _ _ _ (w8.alloc (.cells #[.string n, .int .i64 0] 89))
        have hbel : Below w8.heap.size w8 (w8.alloc (.cells #[.string n, .int .i64 0] 89)) := (Below.refl _ _).alloc (Nat.le_refl _) _
        have hk9 := heap_alloc_new w8 (.cells #[.string n, .int .i64 0] 89)
        have hps := HPw8.out.below hbel
        have hb9 := HBw8.out.trans (below_grownBy hbel (some p))
        have hkgX := (hbel.block _ (blk_lt HgXw8.out)).trans HgXw8.out
        have hrQ := Kd.R_below (Kd.R_mono (ok' := fun k => k ≠ w8.heap.size) (Kd.R_bound HQw8.out) (fun k hk => Nat.ne_of_lt hk.2.2.1)) hbel
        obtain ⟨gV, hggV⟩ : ∃ g, w8.heap.size = g := ⟨_, rfl⟩
        have HLgV : Aside0 (w.heap.size ≤ gV) := ⟨by rw [← hggV]; exact HBw8.out.size⟩
        have HNgV : Aside0 (gV ≠ p) := ⟨by rw [← hggV]; exact fun e => by have := HPw8.out.lt; omega⟩
        have HWgV : Aside0 (w0.heap.size ≤ gV) := ⟨by rw [← hggV]; exact HPw8.out.bel.size⟩
        have HDgXgV : Aside0 (gX ≠ gV) := ⟨by rw [← hggV]; exact fun e => by have := blk_lt HgXw8.out; omega⟩
        obtain ⟨w9, hw9⟩ : ∃ x, w8.alloc (.cells #[.string n, .int .i64 0] 89) = x := ⟨_, rfl⟩
        rw [hggV] at hk9
        rw [hggV] at hrQ
        rw [hw9] at hps hb9 hk9 hkgX hrQ ⊢
        have HPw9 := Aside0.mk hps
        have HBw9 := Aside0.mk hb9
        have HgVw9 := Aside0.mk hk9
        have HgXw9 := Aside0.mk hkgX
        have HQw9 := Aside0.mk hrQ
        simp only [hggV]
        clear hw9 hps hb9 hk9 hbel hggV hkgX hrQ HPw8 HBw8 HgXw8 HQw8
        go_wp2_with fail
        refine (qmust w0 w9 p t1 HPw9 c_eq ⟨by decide⟩ t2 At2).mono ?_
        rintro e w10 ⟨rfl, HPw10, hb9⟩
        have HBw10 := Aside0.mk (HBw9.out.trans hb9.out)
        have HgXw10 := Aside0.mk (grown_block hb9.out HgXw9.out HNgX.out)
        have HgVw10 := Aside0.mk (grown_block hb9.out HgVw9.out HNgV.out)
        have HQw10 := Aside0.mk (qrow_call HQw9.out HPw9.out (by decide) hb9.out)
        clear hb9 HPw9 HBw9 HgXw9 HgVw9 HQw9
        go_wp2_with fail
        refine (qnum w0 w10 p t2 HPw10 k Ak t3 At3).mono ?_
        rintro e w11 ⟨rfl, HPw11, hb9⟩
        have HBw11 := Aside0.mk (HBw10.out.trans hb9.out)
        have HgXw11 := Aside0.mk (grown_block hb9.out HgXw10.out HNgX.out)
        have HgVw11 := Aside0.mk (grown_block hb9.out HgVw10.out HNgV.out)
        have HQw11 := Aside0.mk (qrow_call HQw10.out HPw10.out (by decide) hb9.out)
        clear hb9 HPw10 HBw10 HgXw10 HgVw10 HQw10
        have zgV1 : w11.cell? ⟨gV, 1, none⟩ = some (.int .i64 0) := blk_cell HgVw11.out 1
        have hfzgV := fun i => blk_frozen HgVw11.out i
        go_upto_region 14 with fail
        change Code.wp _ _ _ _ (w11.setCell ⟨gV, 1, none⟩ (.int .i64 (k : Int)))
        have hps := (HPw11.out.far HNgV.out HWgV.out 1 (.int .i64 (k : Int)))
        have hb9 := (grown_far HBw11.out HLgV.out 1 (.int .i64 (k : Int)))
        have hk9 := (blk_set HgVw11.out 1 (.int .i64 (k : Int)))
        simp only [List.setIfInBounds_toArray, List.set_cons_zero, List.set_cons_succ] at hk9
        have hkgX := (blk_far HgXw11.out (p := ⟨gV, 1, none⟩) HDgXgV.out (.int .i64 (k : Int)))
        have hrQ := (Kd.R_far HQw11.out (p := ⟨gV, 1, none⟩) (fun k hk => hk) (.int .i64 (k : Int)))
        obtain ⟨w12, hw9⟩ : ∃ x, (w11.setCell ⟨gV, 1, none⟩ (.int .i64 (k : Int))) = x := ⟨_, rfl⟩
        rw [hw9] at hps hb9 hk9 hkgX hrQ ⊢
        have HPw12 := Aside0.mk hps
        have HBw12 := Aside0.mk hb9
        have HgVw12 := Aside0.mk hk9
        have HgXw12 := Aside0.mk hkgX
        have HQw12 := Aside0.mk hrQ
        clear hw9 hps hb9 hk9 hkgX hrQ zgV1 hfzgV HPw11 HBw11 HgXw11 HgVw11 HQw11
        go_wp2_with fail
        refine (qmust w0 w12 p t3 HPw12 c_semi ⟨by decide⟩ t4 At4).mono ?_
        rintro e w13 ⟨rfl, HPw13, hb9⟩
        have HBw13 := Aside0.mk (HBw12.out.trans hb9.out)
        have HgXw13 := Aside0.mk (grown_block hb9.out HgXw12.out HNgX.out)
        have HgVw13 := Aside0.mk (grown_block hb9.out HgVw12.out HNgV.out)
        have HQw13 := Aside0.mk (qrow_call HQw12.out HPw12.out (by decide) hb9.out)
        clear hb9 HPw12 HBw12 HgXw12 HgVw12 HQw12
        have zgV0 : w13.cell? ⟨gV, 0, none⟩ = some (.string n) := blk_cell HgVw13.out 0
        have zgV1 : w13.cell? ⟨gV, 1, none⟩ = some (.int .i64 (k : Int)) := blk_cell HgVw13.out 1
        have zgX1 : w13.cell? ⟨gX, 1, none⟩ = some (.slice A q.length c) := blk_cell HgXw13.out 1
        clear HgVw13
        go_wp2_with (at_builtin; refine Kd.R_append k89 (w0 := w13) (W := w13) w.heap.size ?hgd (.tmp 70) (.tmp 72) 66 89 (.agg #[.string ⟨#[]⟩, .int .i64 0]) 24 ?ho ?ht ?hinfo ?hz ?hs0 ?hb0 (.slice A q.length c) (q) (nS (n, k)) [.string n, .int .i64 (k : Int)] (fun _ => True) (fun _ => False) ?hs ?hx ?hp ?hokp ?hfresh ?HO ?HB ?hbase ?hl ?h)
        case hgd => rfl
        case ho => rfl
        case ht => exact Tryd.underlying66
        case hinfo => exact infoNamed
        case hz => rfl
        case hs0 => decide
        case hb0 => decide
        case hs => rfl
        case hx => rfl
        case hp => exact k89_mkM _ _ _ (nS (n, k))
        case hokp => exact fun _ h => h.elim
        case hfresh => exact fun _ _ => trivial
        case HO => exact Kd.R_mono HQw13.out (fun _ _ => trivial)
        case HB => exact Below.refl _ _
        case hbase => exact HBw13.out.size
        case hl => omega
        case h =>
          intro v9 w14 hr9 hb9 hg9 hat9
          obtain ⟨A9, c9, rfl⟩ := Kd.R_slice hr9
          obtain ⟨hp9, hf9⟩ := qapp_frame HPw13.out HBw13.out H.out.bel.size HQw13.out (by decide) hg9
          have hkgX := blk_grown HgXw13.out hg9 (Kd.R_ne HQw13.out HgXw13.out (by decide))
          have HPw14 := Aside0.mk hp9
          have HBw14 := Aside0.mk hf9
          have HQw14 := Aside0.mk hr9
          have HgXw14 := Aside0.mk hkgX
          clear hr9 hb9 hg9 hat9 hp9 hf9 hkgX HPw13 HBw13 HgXw13 HQw13
          clear zgV0 zgV1 zgX1
          have zgX1 : w14.cell? ⟨gX, 1, none⟩ = some (.slice A q.length c) := blk_cell HgXw14.out 1
          have hfzgX := fun i => blk_frozen HgXw14.out i
          go_wp2_with fail
          have hps := HPw14.out.far HNgX.out HWgX.out 1 (.slice A9 (q ++ [nS (n, k)]).length c9)
          have hb9 := grown_far HBw14.out HLgX.out 1 (.slice A9 (q ++ [nS (n, k)]).length c9)
          have hk9 := blk_set HgXw14.out 1 (.slice A9 (q ++ [nS (n, k)]).length c9)
          simp only [List.setIfInBounds_toArray, List.set_cons_zero, List.set_cons_succ] at hk9
          have hr9 := row_far HQw14.out HgXw14.out (by decide) 1 (.slice A9 (q ++ [nS (n, k)]).length c9)
          have hmm := hps.mu
          obtain ⟨q2, hq2⟩ : ∃ q2, q ++ [nS (n, k)] = q2 := ⟨_, rfl⟩
          have hq3 : q2.length = q.length + 1 := by rw [← hq2]; simp
          have HQ2 : Aside0 ((l ++ [(n, k)]).map nS = q2) := ⟨by rw [List.map_append, HLQ.out]; exact hq2⟩
          have HLS2 : Aside0 (q2.length + mu t4 ≤ 20001) := ⟨by rw [hq3]; exact HLS.out⟩
          simp only [List.length_append, List.length_cons, List.length_nil, Nat.zero_add] at hk9 hr9 hps hb9 hmm
          have AQ2 := Aside0.mk hq2
          have AQ3 := Aside0.mk hq3
          clear hq2 hq3
          have HP9 := Aside0.mk hps
          have HB9 := Aside0.mk hb9
          have HK9 := Aside0.mk hk9
          have HR9 := Aside0.mk hr9
          have HMM9 := Aside0.mk hmm
          clear hps hb9 hk9 hr9 hmm
          go_roundw
          case rel => exact ⟨l ++ [(n, k)], q2, t4, A9, c9, HQ2, HE2, HLS2.out, HP9, HB9, ⟨by rw [AQ3.out]; exact HK9.out⟩, ⟨by rw [AQ3.out, ← AQ2.out]; exact HR9.out⟩⟩
          case measure => rw [HMM9.out, HMX.out]; exact HMM.out
end Go.Proofs.YtbfhglaaombglaaDoor
end
section
namespace Go.Proofs.YtbfhglaaombglaaDoor
set_option linter.unusedVariables false
set_option linter.unusedSimpArgs false
open Go.RowKit Go.ChangeMaps Go.Proofs.YtbfhglaaombglaaDoorW.PrintWords Go.Proofs.YtbfhglaaombglaaDoorW.PrintMore Go.Proofs.YtbfhglaaombglaaDoor.PIdlParses
theorem rtokens_err (s : ByteArray) (w : World) (hs : s.size ≤ 16384) (L : List (Nat × Nat × Nat)) (a er : Nat) (hR : Aside0 (toksA 0 (bs s) = (L, some (a, er)))) :
    Calls Tryd.prog 18 #[.string s] w fun e w' => e = .returned (.tuple #[.slice none 0 0, .int .i64 (a : Int), .int .i64 (er : Int)]) ∧ Aside0 (Below w.heap.size w w') :=
  rtokens_run s w hs L (some (a, er)) hR
/-- The pieces, as the reference reads them. -/
theorem rtokens_tk (s : ByteArray) (w : World) (hs : s.size ≤ 16384) (L : List (Nat × Nat × Nat)) (hR : Aside0 (toksA 0 (bs s) = (L, none))) :
    Calls Tryd.prog 18 #[.string s] w fun e w' => ∃ A c, e = .returned (.tuple #[.slice A (L.map (tkOf s)).length c, .int .i64 0, .int .i64 0]) ∧ Aside0 (TkRd w' A c (L.map (tkOf s))) ∧ Aside0 (Below w.heap.size w w') := by
  refine (rtokens_run s w hs L none hR).mono ?_
  rintro e w' ⟨v, h1, h2, h3⟩
  have hll : L.length ≤ 20000 := by
    have := toks_len _ 0 (bs s) (Nat.le_refl _)
    rw [hR.out, bs_length] at this
    simp only at this
    omega
  obtain ⟨A, c, rfl, hr⟩ := toks_read h2.out
  have hc : L.length ≤ c ∧ c ≤ 9223372036854775807 := by
    obtain ⟨_, h9⟩ := h2.out
    rcases h9 with ⟨h8, h7⟩ | ⟨g, cap, cur, h8, _, hh, h6, hm, _⟩
    · injection h8 with _ a b
      rw [b, h7]
      omega
    · injection h8 with _ _ b
      subst b
      simp only [maxLen] at hm
      omega
  refine ⟨A, c, by rw [List.length_map]; exact h1, ⟨⟨by rw [List.length_map]; exact hc.1, by rw [List.length_map]; exact hll⟩, hc.2, fun t ht => ?_, fun hn => ?_⟩, h3⟩
  · obtain ⟨q, _, rfl⟩ := List.mem_map.1 ht
    show (s.extract q.2.1 (q.2.1 + q.2.2)).size ≤ 16384
    rw [ByteArray.size_extract]
    omega
  · rw [List.length_map] at hn
    obtain ⟨g, rfl, hcc⟩ := hr.2 hn
    refine ⟨g, 0, rfl, fun j t hj => ?_⟩
    rw [List.getElem?_map] at hj
    obtain ⟨q, hq, rfl⟩ := Option.map_eq_some_iff.1 hj
    have := hcc j q hq
    rw [Nat.zero_add]
    exact this
/-- The first i of them are turned. -/
structure UpG {α : Type} (r : α → α) (X0 X : List α) (i : Nat) : Prop where
  len : X.length = X0.length
  el : ∀ i' x, X0[i']? = some x → X[i']? = some (if i' < i then r x else x)
theorem UpG.zero {α : Type} (r : α → α) (X0 : List α) : UpG r X0 X0 0 := ⟨rfl, fun i' x h => by rw [if_neg (by omega)]; exact h⟩
theorem UpG.all {α : Type} {r : α → α} {X0 X : List α} (h : UpG r X0 X X0.length) : X = X0.map r := by
  apply List.ext_getElem?
  intro i
  rw [List.getElem?_map]
  cases hx : X0[i]? with
  | none => rw [Option.map_none, List.getElem?_eq_none]; rw [h.len]; exact List.getElem?_eq_none_iff.1 hx
  | some x =>
    have := h.el i x hx
    rw [if_pos (List.getElem?_eq_some_iff.1 hx).1] at this
    exact this
theorem UpG.put {α : Type} {r : α → α} {F0 F : List α} {j : Nat} (h : UpG r F0 F j) {f g : α} (hf : F0[j]? = some f) (hr : r f = g) : UpG r F0 (F.set j g) (j + 1) :=
  ⟨by rw [List.length_set]; exact h.len, fun j' x hx => by
    have hjl : j < F.length := by rw [h.len]; exact (List.getElem?_eq_some_iff.1 hf).1
    by_cases h2 : j' = j
    · subst h2
      rw [hf] at hx
      cases hx
      rw [List.getElem?_set_self hjl, if_pos (by omega), hr]
    · rw [List.getElem?_set_ne (fun e => h2 e.symm), h.el j' x hx]
      by_cases h1 : j' < j
      · rw [if_pos h1, if_pos (by omega)]
      · rw [if_neg h1, if_neg (by omega)]⟩
theorem UpG.same {α : Type} {r : α → α} {F0 F : List α} {j : Nat} (h : UpG r F0 F j) {f : α} (hf : F0[j]? = some f) (hr : r f = f) : UpG r F0 F (j + 1) := by
  have h9 := h.put hf hr
  have h8 := h.el j f hf
  rw [if_neg (Nat.lt_irrefl j)] at h8
  obtain ⟨hl, he⟩ := List.getElem?_eq_some_iff.1 h8
  rw [← he, List.set_getElem_self] at h9
  exact h9
/-- A field's type: a name is 7, or 6 where it is an enumeration's. -/
def k7 (f : S43) : S43 := if f.f3.f0 = 0 then putK f 7 else f
def k7M (x : Ms) : Ms := (⟨x.1.f0, x.1.f1.map k7, x.1.f2⟩, x.2.1, x.2.2)
def r2 (es : List S68) (f : S43) : S43 := r1 es (k7 f)
def r2M (es : List S68) (x : Ms) : Ms := (⟨x.1.f0, x.1.f1.map (r2 es), x.1.f2⟩, x.2.1, x.2.2)
theorem r2M_eq (es : List S68) (X : List Ms) : (X.map k7M).map (rM es) = X.map (r2M es) := by
  rw [List.map_map]
  apply List.map_congr_left
  intro x _
  show rM es (k7M x) = r2M es x
  unfold rM k7M r2M
  simp only [List.map_map]
  rfl
theorem k7_rS (f : Fd) : k7 (rS f) = fS f := by
  unfold k7
  by_cases h : f.kind = 0
  · rw [if_pos (by show ((f.kind : Nat) : Int) = 0; omega)]
    unfold fS putK rS kk7
    rw [if_pos h]
    rfl
  · rw [if_neg (by show ¬ ((f.kind : Nat) : Int) = 0; omega)]
    unfold fS rS kk7
    rw [if_neg h]
theorem k7M_gS (x : Sc) (xm : List Ms) (h : xm.map (·.1) = x.msgs.map gSr) : (xm.map k7M).map (·.1) = x.msgs.map gS := by
  have h1 : (xm.map k7M).map (·.1) = (xm.map (·.1)).map (fun m => (⟨m.f0, m.f1.map k7, m.f2⟩ : S45)) := by
    rw [List.map_map, List.map_map]; rfl
  rw [h1, h, List.map_map]
  apply List.map_congr_left
  intro m _
  show (⟨m.name, (m.fields.map rS).map k7, nums_ m.res⟩ : S45) = ⟨m.name, m.fields.map fS, nums_ m.res⟩
  rw [List.map_map]
  congr 1
  apply List.map_congr_left
  intro f _
  exact k7_rS f
theorem k7M_pair {X : List Ms} (h : X.Pairwise (fun a b => a.2.2 ≤ b.2.1)) : (X.map k7M).Pairwise (fun a b => a.2.2 ≤ b.2.1) := by
  rw [List.pairwise_map]
  exact h
theorem r2_no (es : List S68) (f : S43) (h0 : f.f3.f0 ≠ 0) (h7 : f.f3.f0 ≠ 7) : r2 es f = f := by
  unfold r2 k7 r1
  rw [if_neg h0, if_neg (fun h => h7 h.1)]
theorem r2_yes (es : List S68) (f : S43) (h0 : f.f3.f0 = 0) : r2 es f = putK f (if inE es f.f3.f1 then 6 else 7) := by
  unfold r2 k7 r1
  rw [if_pos h0]
  have e1 : (putK f 7).f3.f0 = 7 := rfl
  have e2 : (putK f 7).f3.f1 = f.f3.f1 := rfl
  rw [e1, e2]
  cases hin : inE es f.f3.f1 with
  | true => rw [if_pos ⟨rfl, rfl⟩, if_pos rfl]; rfl
  | false => rw [if_neg (fun h => by cases h.2), if_neg (by decide)]
theorem inE_take (es : List S68) (k : Nat) (e : S68) (he : es[k]? = some e) (t : ByteArray) : inE (es.take (k + 1)) t = (inE (es.take k) t || decide (e.f0 = t)) := by
  rw [List.take_add_one, he, Option.toList_some, inE_snoc]
/-- The messages' rows lie apart, whatever has been written. -/
theorem UpG.pair {es : List S68} {X0 X : List Ms} {i : Nat} (h : UpG (r2M es) X0 X i) (hp : X0.Pairwise (fun a b => a.2.2 ≤ b.2.1)) : X.Pairwise (fun a b => a.2.2 ≤ b.2.1) := by
  rw [List.pairwise_iff_getElem] at hp ⊢
  intro a b ha hb hab
  have ha0 : a < X0.length := by rw [← h.len]; exact ha
  have hb0 : b < X0.length := by rw [← h.len]; exact hb
  have h1 := h.el a _ (List.getElem?_eq_getElem ha0)
  have h2 := h.el b _ (List.getElem?_eq_getElem hb0)
  rw [List.getElem?_eq_getElem ha] at h1
  rw [List.getElem?_eq_getElem hb] at h2
  rw [Option.some.inj h1, Option.some.inj h2]
  have := hp a b ha0 hb0 hab
  split <;> split <;> exact this
theorem pair_put {X : List Ms} {i : Nat} {x y : Ms} (h : X.Pairwise (fun a b => a.2.2 ≤ b.2.1)) (hx : X[i]? = some x) (hy : y.2 = x.2) : (X.set i y).Pairwise (fun a b => a.2.2 ≤ b.2.1) := by
  rw [List.pairwise_iff_getElem] at h ⊢
  intro a b ha hb hab
  rw [List.length_set] at ha hb
  have h8 := h a b ha hb hab
  obtain ⟨hl9, he9⟩ := List.getElem?_eq_some_iff.1 hx
  rw [List.getElem_set, List.getElem_set]
  split
  · rename_i hia
    subst hia
    rw [if_neg (by omega), hy]
    rw [he9] at h8
    exact h8
  · split
    · rename_i hib
      subst hib
      rw [he9] at h8
      rw [hy]
      exact h8
    · exact h8
/-- A field's kind, written into the messages' rows, over what was written there before. -/
theorem MsgsAt.put2 {w : World} {B g : Nat} {X : List Ms} {i : Nat} {x : Ms} {F : List S43} (h : MsgsAt w B g (X.set i (⟨x.1.f0, F, x.1.f2⟩, x.2.1, x.2.2))) (hap : X.Pairwise (fun a b => a.2.2 ≤ b.2.1)) (hx : X[i]? = some x) {v2 : Value} {gf o n c : Nat} (hm : MsgAt w B g i (⟨x.1.f0, F, x.1.f2⟩, x.2.1, x.2.2) (.slice (some ⟨gf, o, none⟩) n c) v2) {j : Nat} {f : S43} (hj : F[j]? = some f) (k : Int) :
    MsgsAt (w.setCell ⟨gf, o + j * 5 + 3, none⟩ (.int .i64 k)) B g (X.set i (⟨x.1.f0, F.set j (putK f k), x.1.f2⟩, x.2.1, x.2.2)) ∧ MsgAt (w.setCell ⟨gf, o + j * 5 + 3, none⟩ (.int .i64 k)) B g i (⟨x.1.f0, F.set j (putK f k), x.1.f2⟩, x.2.1, x.2.2) (.slice (some ⟨gf, o, none⟩) n c) v2 := by
  obtain ⟨h1, h2⟩ := h.put (pair_put hap hx rfl) (i := i) (by rw [List.getElem?_set_self (List.getElem?_eq_some_iff.1 hx).1]) hm hj k
  rw [List.set_set] at h1
  exact ⟨h1, h2⟩
theorem DS.below {w0 wb w w1 : World} {p gs : Nat} {nm : ByteArray} {x : Sc} {st : St} (h : DS w0 wb w p gs nm x st) (hb : Below w.heap.size w w1) : DS w0 wb w1 p gs nm x st := by
  obtain ⟨Am, cm, Ae, ce, At, ct, xm, xe, xt, h1, h2, h3, h4, h5, h6, h7, h8⟩ := h
  exact ⟨Am, cm, Ae, ce, At, ct, xm, xe, xt, ⟨h1.out.below hb⟩, ⟨h2.out.trans (below_grownBy hb _)⟩, ⟨(hb.block _ (blk_lt h3.out)).trans h3.out⟩, ⟨Kd.R_below h4.out hb⟩, ⟨Kd.R_below h5.out hb⟩, ⟨Kd.R_below h6.out hb⟩, ⟨h7.out.more hb.size⟩, h8⟩
/-- One declaration. -/
def decS (x : Sc) (st : St) : Sc × St :=
  if takesB w_message st then ({ x with msgs := x.msgs ++ [messV (takesM w_message st)] }, messM (takesM w_message st))
  else if takesB w_enum st then ({ x with enums := x.enums ++ [enumV (takesM w_enum st)] }, enumM (takesM w_enum st))
  else if takesB w_call st then ({ x with meths := x.meths ++ [callV (takesM w_call st)] }, callM (takesM w_call st))
  else (x, (st.1, true))
theorem declA_dec (x : Sc) (st : St) (hb : st.2 = false) (hn : st.1 ≠ []) : declA x st = declA (decS x st).1 (decS x st).2 := by
  unfold decS
  cases h1 : takesB w_message st with
  | true => rw [if_pos rfl]; exact declA_message x st hb h1
  | false =>
    rw [if_neg (by decide)]
    cases h2 : takesB w_enum st with
    | true => rw [if_pos rfl]; exact declA_enum x st hb h1 h2
    | false =>
      rw [if_neg (by decide)]
      cases h3 : takesB w_call st with
      | true => rw [if_pos rfl]; exact declA_call x st hb h1 h2 h3
      | false => rw [if_neg (by decide), declA_none x st hb hn h1 h2 h3, declA_done x _ (.inl rfl)]
theorem dec_mu (x : Sc) (st : St) (hb : st.2 = false) : mu (decS x st).2 < mu st := by
  have h9 := mu_pos hb
  unfold decS
  cases h1 : takesB w_message st with
  | true => rw [if_pos rfl]; have := mu_takes h1; have := mu_mess (takesM w_message st); simp only; omega
  | false =>
    rw [if_neg (by decide)]
    cases h2 : takesB w_enum st with
    | true => rw [if_pos rfl]; have := mu_takes h2; have := mu_enum (takesM w_enum st); simp only; omega
    | false =>
      rw [if_neg (by decide)]
      cases h3 : takesB w_call st with
      | true => rw [if_pos rfl]; have := mu_takes h3; have := mu_call (takesM w_call st); simp only; omega
      | false => rw [if_neg (by decide)]; exact h9
theorem decl_any (w0 wb w : World) (p gs : Nat) (nm : ByteArray) (x : Sc) (st : St) (HDS : DS w0 wb w p gs nm x st) (HWB : Aside0 (w0.heap.size ≤ wb.heap.size)) (HLgs : Aside0 (wb.heap.size ≤ gs)) (HNgs : Aside0 (gs ≠ p)) (x2 : Sc) (s2 : St) (hq : Aside0 (decS x st = (x2, s2))) :
    Calls Tryd.prog 21 #[.pointer (some ⟨p, 0, none⟩), .pointer (some ⟨gs, 0, none⟩)] w fun e w' => e = .returned (.tuple #[]) ∧ DS w0 wb w' p gs nm x2 s2 := by
  obtain ⟨hq⟩ := hq
  unfold decS at hq
  cases h1 : takesB w_message st with
  | true =>
    rw [h1, if_pos rfl] at hq
    obtain ⟨rfl, rfl⟩ := Prod.mk.inj hq
    exact decl_message w0 wb w p gs nm x st HDS HWB HLgs HNgs h1
  | false =>
    rw [h1, if_neg (by decide)] at hq
    cases h2 : takesB w_enum st with
    | true =>
      rw [h2, if_pos rfl] at hq
      obtain ⟨rfl, rfl⟩ := Prod.mk.inj hq
      exact decl_enum w0 wb w p gs nm x st HDS HWB HLgs HNgs h1 h2
    | false =>
      rw [h2, if_neg (by decide)] at hq
      cases h3 : takesB w_call st with
      | true =>
        rw [h3, if_pos rfl] at hq
        obtain ⟨rfl, rfl⟩ := Prod.mk.inj hq
        exact decl_call w0 wb w p gs nm x st HDS HWB HLgs HNgs h1 h2 h3
      | false =>
        rw [h3, if_neg (by decide)] at hq
        obtain ⟨rfl, rfl⟩ := Prod.mk.inj hq
        exact decl_none w0 wb w p gs nm x st HDS HWB HLgs HNgs h1 h2 h3
end Go.Proofs.YtbfhglaaombglaaDoor
end
section
namespace Go.Proofs.YtbfhglaaombglaaDoor
set_option linter.unusedVariables false
set_option linter.unusedSimpArgs false
open Go.RowKit Go.ChangeMaps Go.Proofs.YtbfhglaaombglaaDoorW.PrintWords Go.Proofs.YtbfhglaaombglaaDoorW.PrintMore Go.Proofs.YtbfhglaaombglaaDoor.PIdlParses
set_option maxRecDepth 100000 in
set_option maxHeartbeats 8000000 in
theorem rparse_any (s : ByteArray) (we : World) (hs : s.size ≤ 140737488351232) (hT : Tabs we) (x : Sc) (at_ er : Nat) (hP : Aside0 (parseF s = (x, at_, er))) :
    Calls Tryd.prog 11 #[.string s] we fun e w' => ∃ v1 v2 v3, e = .returned (.tuple #[.agg #[.string x.name, v1, v2, v3], .int .i64 (at_ : Int), .int .i64 (er : Int)]) ∧ Aside0 (ScAll w' x v1 v2 v3) ∧ Aside0 (Below we.heap.size we w') := by
  have hbA : Below we.heap.size we (we.alloc (.cells #[.string ⟨#[]⟩, .slice none 0 0, .slice none 0 0, .slice none 0 0] 27)) := (Below.refl _ _).alloc (Nat.le_refl _) _
  have HKR := Aside0.mk (heap_alloc_new we (.cells #[.string ⟨#[]⟩, .slice none 0 0, .slice none 0 0, .slice none 0 0] 27))
  have HBA := Aside0.mk hbA
  have HT := Aside0.mk (tabs_below hT hbA)
  clear hbA hT
  go_enter Tryd.func11, Tryd.ntmps11
  go_upto_region 1 with fail
  change Code.wp _ _ _ _ (we.alloc (.cells #[.string ⟨#[]⟩, .slice none 0 0, .slice none 0 0, .slice none 0 0] 27))
  obtain ⟨gR, hgR⟩ : ∃ x, we.heap.size = x := ⟨_, rfl⟩
  obtain ⟨wa, hwa⟩ : ∃ x, we.alloc (.cells #[.string ⟨#[]⟩, .slice none 0 0, .slice none 0 0, .slice none 0 0] 27) = x := ⟨_, rfl⟩
  rw [hgR, hwa] at HKR
  rw [hwa] at HBA HT ⊢
  simp only [hgR]
  have HGR : Aside0 (we.heap.size ≤ gR) := ⟨Nat.le_of_eq hgR⟩
  clear hwa hgR
  by_cases hbig : 16384 < s.size
  · have hP2 := hP.out
    rw [parseF, if_pos hbig] at hP2
    obtain ⟨rfl, hP3⟩ := Prod.mk.inj hP2
    obtain ⟨rfl, rfl⟩ := Prod.mk.inj hP3
    clear hP2 hP3
    go_wp2_with fail
    refine (rtokens_big s wa hbig).mono ?_
    rintro e w' ⟨rfl, rfl⟩
    have hfz := fun i => blk_frozen HKR.out i
    have z0 : wa.cell? ⟨gR, 0, none⟩ = some (.string ⟨#[]⟩) := blk_cell HKR.out 0
    have z1 : wa.cell? ⟨gR, 1, none⟩ = some (.slice none 0 0) := blk_cell HKR.out 1
    have z2 : wa.cell? ⟨gR, 2, none⟩ = some (.slice none 0 0) := blk_cell HKR.out 2
    have z3 : wa.cell? ⟨gR, 3, none⟩ = some (.slice none 0 0) := blk_cell HKR.out 3
    go_wp2_with fail
    change bodyPost _ _ _ _ _ (put4 wa gR (.string ⟨#[]⟩) (.slice none 0 0) (.slice none 0 0) (.slice none 0 0))
    have hk8 := put4_blk HKR.out (.string ⟨#[]⟩) (.slice none 0 0) (.slice none 0 0) (.slice none 0 0)
    have hb8 := put4_below HBA.out HGR.out (.string ⟨#[]⟩) (.slice none 0 0) (.slice none 0 0) (.slice none 0 0)
    obtain ⟨w8, hw8⟩ : ∃ x, put4 wa gR (.string ⟨#[]⟩) (.slice none 0 0) (.slice none 0 0) (.slice none 0 0) = x := ⟨_, rfl⟩
    rw [hw8] at hk8 hb8 ⊢
    clear hw8 z0 z1 z2 z3 hfz
    have z0 : w8.cell? ⟨gR, 0, none⟩ = some (.string ⟨#[]⟩) := blk_cell hk8 0
    have z1 : w8.cell? ⟨gR, 1, none⟩ = some (.slice none 0 0) := blk_cell hk8 1
    have z2 : w8.cell? ⟨gR, 2, none⟩ = some (.slice none 0 0) := blk_cell hk8 2
    have z3 : w8.cell? ⟨gR, 3, none⟩ = some (.slice none 0 0) := blk_cell hk8 3
    refine bodyPost_ret (v := .tuple #[.agg #[.string ⟨#[]⟩, .slice none 0 0, .slice none 0 0, .slice none 0 0], .int .i64 0, .int .i64 4]) ?_ rfl ?_
    · rw [results_cell3 rfl]
      go_simp
      first | rfl | done
    · exact ⟨_, _, _, rfl, ⟨ScAll.nil _⟩, ⟨hb8⟩⟩
  · have hs16 : s.size ≤ 16384 := by omega
    obtain ⟨L, E, hLE⟩ : ∃ L E, toksA 0 (bs s) = (L, E) := ⟨_, _, rfl⟩
    have hP2 := hP.out
    rw [parseF, if_neg hbig, hLE] at hP2
    cases E with
    | some ae =>
      obtain ⟨a, e⟩ := ae
      simp only at hP2
      obtain ⟨rfl, hP3⟩ := Prod.mk.inj hP2
      obtain ⟨rfl, rfl⟩ := Prod.mk.inj hP3
      have he0 : ((e : Int) != 0) = true := by
        obtain ⟨v, _, _, hv⟩ := (toks_steps _ 0 (bs s) (Nat.le_refl _)).2 L a e hLE
        have := step_err v e hv
        rw [bne_iff_ne]; omega
      have HLE := Aside0.mk hLE
      clear hP2 hP3 hLE hbig
      go_wp2_with fail
      refine (rtokens_err s wa hs16 L a e HLE).mono ?_
      rintro e9 wb ⟨rfl, hb9⟩
      have HKB := Aside0.mk ((hb9.out.block _ (blk_lt HKR.out)).trans HKR.out)
      have HBB := Aside0.mk (HBA.out.trans (hb9.out.mono HBA.out.size))
      clear hb9
      have hfz := fun i => blk_frozen HKB.out i
      have z0 : wb.cell? ⟨gR, 0, none⟩ = some (.string ⟨#[]⟩) := blk_cell HKB.out 0
      have z1 : wb.cell? ⟨gR, 1, none⟩ = some (.slice none 0 0) := blk_cell HKB.out 1
      have z2 : wb.cell? ⟨gR, 2, none⟩ = some (.slice none 0 0) := blk_cell HKB.out 2
      have z3 : wb.cell? ⟨gR, 3, none⟩ = some (.slice none 0 0) := blk_cell HKB.out 3
      go_wp2_with fail
      change bodyPost _ _ _ _ _ (put4 wb gR (.string ⟨#[]⟩) (.slice none 0 0) (.slice none 0 0) (.slice none 0 0))
      have hk8 := put4_blk HKB.out (.string ⟨#[]⟩) (.slice none 0 0) (.slice none 0 0) (.slice none 0 0)
      have hb8 := put4_below HBB.out HGR.out (.string ⟨#[]⟩) (.slice none 0 0) (.slice none 0 0) (.slice none 0 0)
      obtain ⟨w8, hw8⟩ : ∃ x, put4 wb gR (.string ⟨#[]⟩) (.slice none 0 0) (.slice none 0 0) (.slice none 0 0) = x := ⟨_, rfl⟩
      rw [hw8] at hk8 hb8 ⊢
      clear hw8 z0 z1 z2 z3 hfz
      have z0 : w8.cell? ⟨gR, 0, none⟩ = some (.string ⟨#[]⟩) := blk_cell hk8 0
      have z1 : w8.cell? ⟨gR, 1, none⟩ = some (.slice none 0 0) := blk_cell hk8 1
      have z2 : w8.cell? ⟨gR, 2, none⟩ = some (.slice none 0 0) := blk_cell hk8 2
      have z3 : w8.cell? ⟨gR, 3, none⟩ = some (.slice none 0 0) := blk_cell hk8 3
      refine bodyPost_ret (v := .tuple #[.agg #[.string ⟨#[]⟩, .slice none 0 0, .slice none 0 0, .slice none 0 0], .int .i64 (a : Int), .int .i64 (e : Int)]) ?_ rfl ?_
      · rw [results_cell3 rfl]
        go_simp
        first | rfl | done
      · exact ⟨_, _, _, rfl, ⟨ScAll.nil _⟩, ⟨hb8⟩⟩
    | none =>
      simp only at hP2
      have HLE := Aside0.mk hLE
      have HPT := Aside0.mk hP2
      clear hP2 hLE hbig hP
      go_wp2_with fail
      refine (rtokens_tk s wa hs16 L HLE).mono ?_
      rintro e wb ⟨A, c, rfl, HTK, hb9⟩
      have HKB := Aside0.mk ((hb9.out.block _ (blk_lt HKR.out)).trans HKR.out)
      have HBB := Aside0.mk (HBA.out.trans (hb9.out.mono HBA.out.size))
      have HTB := Aside0.mk (tabs_below HT.out hb9.out)
      clear hb9 HKR HBA HT
      have HSO : Aside0 (StO (L.map (tkOf s), false)) := ⟨toks_ok s L HLE.out⟩
      obtain ⟨l, hl⟩ : ∃ l, L.map (tkOf s) = l := ⟨_, rfl⟩
      rw [hl] at HTK HPT HSO
      simp only [hl]
      obtain ⟨nl, hnl⟩ : ∃ n, l.length = n := ⟨_, rfl⟩
      have HST : Aside0 (StOk (l, false)) := ⟨HTK.out.2.2.1⟩
      have hbP : Below wb.heap.size wb (wb.alloc (.cells #[.slice A nl c, .int .i64 0, .bool false] 62)) := (Below.refl _ _).alloc (Nat.le_refl _) _
      have hkP := heap_alloc_new wb (.cells #[.slice A nl c, .int .i64 0, .bool false] 62)
      have hps : PQ wb (wb.alloc (.cells #[.slice A nl c, .int .i64 0, .bool false] 62)) wb.heap.size (l, false) := ⟨⟨⟨A, c, l, 0, by rw [hkP]; simp only [hnl]; rfl, HTK.out, Nat.zero_le _, rfl⟩, HTB.out, hbP, Nat.le_refl _⟩, HSO.out⟩
      have hkb2 := (hbP.block _ (blk_lt HKB.out)).trans HKB.out
      have hbb2 := HBB.out.trans (hbP.mono HBB.out.size)
      have hgRp : gR ≠ wb.heap.size := fun e => by have := blk_lt HKB.out; omega
      simp only [hnl]
      clear hl hnl
      go_upto_region 5 with fail
      change Code.wp _ _ _ _ (wb.alloc (.cells #[.slice A nl c, .int .i64 0, .bool false] 62))
      obtain ⟨p, hp⟩ : ∃ x, wb.heap.size = x := ⟨_, rfl⟩
      obtain ⟨w, hw1⟩ : ∃ x, wb.alloc (.cells #[.slice A nl c, .int .i64 0, .bool false] 62) = x := ⟨_, rfl⟩
      rw [hw1, hp] at hps
      rw [hw1] at hkb2 hbb2 ⊢
      rw [hp] at hgRp
      simp only [hp]
      obtain ⟨w0, hw0⟩ : ∃ x, wb = x := ⟨_, rfl⟩
      rw [hw0] at hps
      have HPw := Aside0.mk hps
      have H := HPw
      have HKR := Aside0.mk hkb2
      have HBE := Aside0.mk hbb2
      have HNP := Aside0.mk hgRp
      have HPW : Aside0 (we.heap.size ≤ p) := ⟨by rw [← hp]; exact HBB.out.size⟩
      have HWB : Aside0 (w0.heap.size ≤ w.heap.size) := ⟨H.out.bel.size⟩
      have HBw := Aside0.mk (World.grownBy.refl w (some p))
      clear hw0 hw1 hp hps hkb2 hbb2 hbP hkP hgRp HKB HBB HTB HTK HSO
      obtain ⟨X, S6, hX⟩ : ∃ a b, schemaS (l, false) = (a, b) := ⟨_, _, rfl⟩
      have HOKX : Aside0 (ScOk X) := ⟨by have h9 := schema_ok HST.out; rw [hX] at h9; exact h9⟩
      have hP2 := HPT.out
      rw [parseT, hX] at hP2
      simp only at hP2
      have HPT2 := Aside0.mk hP2
      obtain ⟨s0, hs0⟩ : ∃ s, need w_schema (l, false) = s := ⟨_, rfl⟩
      obtain ⟨s1, hs1⟩ : ∃ s, nameM s0 = s := ⟨_, rfl⟩
      obtain ⟨s2, hs2⟩ : ∃ s, need c_semi s1 = s := ⟨_, rfl⟩
      obtain ⟨nm, hnm⟩ : ∃ x, nameV s0 = x := ⟨_, rfl⟩
      have HD0 : Aside0 (declA ⟨nm, [], [], []⟩ s2 = (X, S6)) := ⟨by rw [← hX, schemaS, hs0, hs1, hs2, hnm]⟩
      have hmu0 : mu s2 ≤ 20001 := by
        have h0 := mu_need w_schema (l, false)
        have h1 := mu_name s0
        have h2 := mu_need c_semi s1
        have h3 : mu (l, false) ≤ 20001 := by have h9 := H.out.len; unfold mu; simp only at h9 ⊢; split <;> omega
        rw [hs0] at h0
        rw [hs1] at h1
        rw [hs2] at h2
        omega
      have HMU0 := Aside0.mk hmu0
      have As0 := Aside0.mk hs0
      have As1 := Aside0.mk hs1
      have As2 := Aside0.mk hs2
      have Anm := Aside0.mk hnm
      clear hX HPT hP2 hs0 hs1 hs2 hnm hmu0
      go_wp2_with fail
      refine (qmust w0 w p (l, false) HPw w_schema ⟨by decide⟩ s0 As0).mono ?_
      rintro e w1 ⟨rfl, HPw1, hb9⟩
      have HBw1 := Aside0.mk (HBw.out.trans hb9.out)
      clear hb9 HPw HBw 
      go_wp2_with fail
      refine (qname w0 w1 p s0 HPw1 nm Anm s1 As1).mono ?_
      rintro e w2 ⟨rfl, HPw2, hb9⟩
      have HBw2 := Aside0.mk (HBw1.out.trans hb9.out)
      clear hb9 HPw1 HBw1 
      go_upto_region 7 with fail
      change Code.wp _ _ _ _ (w2.alloc (.cells #[.string nm, .slice none 0 0, .slice none 0 0, .slice none 0 0] 27))
      have hbel : Below w2.heap.size w2 (w2.alloc (.cells #[.string nm, .slice none 0 0, .slice none 0 0, .slice none 0 0] 27)) := (Below.refl _ _).alloc (Nat.le_refl _) _
      have hk9 := heap_alloc_new w2 (.cells #[.string nm, .slice none 0 0, .slice none 0 0, .slice none 0 0] 27)
      have hps := HPw2.out.below hbel
      have hb9 := HBw2.out.trans (below_grownBy hbel (some p))
      obtain ⟨gs, hggs⟩ : ∃ g, w2.heap.size = g := ⟨_, rfl⟩
      have HLgs : Aside0 (w.heap.size ≤ gs) := ⟨by rw [← hggs]; exact HBw2.out.size⟩
      have HNgs : Aside0 (gs ≠ p) := ⟨by rw [← hggs]; exact fun e => by have := HPw2.out.lt; omega⟩
      have HWgs : Aside0 (w0.heap.size ≤ gs) := ⟨by rw [← hggs]; exact HPw2.out.bel.size⟩
      obtain ⟨w3, hw9⟩ : ∃ x, w2.alloc (.cells #[.string nm, .slice none 0 0, .slice none 0 0, .slice none 0 0] 27) = x := ⟨_, rfl⟩
      rw [hggs] at hk9
      rw [hw9] at hps hb9 hk9 ⊢
      have HPw3 := Aside0.mk hps
      have HBw3 := Aside0.mk hb9
      have Hgsw3 := Aside0.mk hk9
      simp only [hggs]
      clear hw9 hps hb9 hk9 hbel hggs  HPw2 HBw2 
      go_wp2_with fail
      refine (qmust w0 w3 p s1 HPw3 c_semi ⟨by decide⟩ s2 As2).mono ?_
      rintro e w4 ⟨rfl, HPw4, hb9⟩
      have HBw4 := Aside0.mk (HBw3.out.trans hb9.out)
      have Hgsw4 := Aside0.mk (grown_block hb9.out Hgsw3.out HNgs.out)
      clear hb9 HPw3 HBw3 Hgsw3
      have HDS : DS w0 w w4 p gs nm ⟨nm, [], [], []⟩ s2 := ⟨none, 0, none, 0, none, 0, [], [], [], HPw4, HBw4, Hgsw4, ⟨Kd.R_nil _ _ _ _ _⟩, ⟨Kd.R_nil _ _ _ _ _⟩, ⟨Kd.R_nil _ _ _ _ _⟩, ⟨⟨rfl, rfl, rfl, rfl, List.Pairwise.nil, by simp⟩⟩, ⟨by have := HMU0.out; simpa using this⟩⟩
      clear HPw4 HBw4 Hgsw4
      go_upto_block 0 with fail
      go_cut [] (fun wc => DS w0 w wc p gs nm X S6)
      case first =>
        go_wp2_with fail
        go_loopw [] (fun wr => ∃ (x : Sc) (st : St), DS w0 w wr p gs nm x st ∧ Aside0 (declA x st = (X, S6))) (fun wr => muR wr p)
        case atStart => exact ⟨_, _, HDS, HD0⟩
        case round =>
          clear HDS HD0
          obtain ⟨x, st, HDS, HD⟩ := hrel
          have HDC := HDS
          obtain ⟨_, _, _, _, _, _, _, _, _, HPr, _⟩ := HDC
          have HMX := Aside0.mk HPr.out.mu
          obtain ⟨A8, c8, l8, i8, hk8, hr8, hi8, hd8⟩ := HPr.out.pr.par
          obtain ⟨n8, hn8⟩ : ∃ n, l8.length = n := ⟨_, rfl⟩
          rw [hn8] at hk8 hi8
          have c0 : wr.cell? ⟨p, 0, none⟩ = some (.slice A8 n8 c8) := blk_cell hk8 0
          have c1 : wr.cell? ⟨p, 1, none⟩ = some (.int .i64 (i8 : Int)) := blk_cell hk8 1
          have c2 : wr.cell? ⟨p, 2, none⟩ = some (.bool st.2) := blk_cell hk8 2
          have hlen : st.1.length = n8 - i8 := by rw [hd8, List.length_drop, hn8]
          have HDD : Aside0 (∀ m, DS w0 w (wr.drewN m) p gs nm x st) := ⟨fun m => HDS.below ((Drawn0.refl _).step _).below⟩
          have HDX : Aside0 (∀ m, muR (wr.drewN m) p = muR wr p) := ⟨fun _ => rfl⟩
          have HPD : Aside0 (DS w0 w wr p gs nm x st) := ⟨HDS⟩
          clear hk8 hr8 hd8 HDS hn8
          cases hb : st.2 with
          | true =>
            rw [hb] at c2
            have hE2 := HD.out
            rw [declA_done x st (.inl hb)] at hE2
            obtain ⟨rfl, rfl⟩ := Prod.mk.inj hE2
            clear hE2 hb HD hlen
            have d0 : wr.drew.cell? ⟨p, 0, none⟩ = some (.slice A8 n8 c8) := c0
            have d1 : wr.drew.cell? ⟨p, 1, none⟩ = some (.int .i64 (i8 : Int)) := c1
            have d2 := c2
            replace d2 : wr.drew.cell? ⟨p, 2, none⟩ = _ := d2
            go_upto_region 8 with fail
            go_quiet (fail)
            all_goals
              go_wp2_with fail
              go_meet
              case rel => exact HDD.out _
          | false =>
            rw [hb] at c2
            by_cases hnil : st.1 = []
            · have hE2 := HD.out
              rw [declA_done x st (.inr hnil)] at hE2
              obtain ⟨rfl, rfl⟩ := Prod.mk.inj hE2
              rw [hnil] at hlen
              have hin : ¬ (i8 : Int) < (n8 : Int) := by simp only [List.length_nil] at hlen; omega
              have e1 : decide ((i8 : Int) < (n8 : Int)) = false := decide_eq_false hin
              clear hE2 hb HD hlen hnil
              have d0 : wr.drew.cell? ⟨p, 0, none⟩ = some (.slice A8 n8 c8) := c0
              have d1 : wr.drew.cell? ⟨p, 1, none⟩ = some (.int .i64 (i8 : Int)) := c1
              have d2 := c2
              replace d2 : wr.drew.cell? ⟨p, 2, none⟩ = _ := d2
              go_upto_region 8 with fail
              go_quiet (fail)
              all_goals
                go_wp2_with fail
                go_meet
                case rel => exact HDD.out _
            · have hnl : 0 < st.1.length := List.length_pos_iff.2 hnil
              have hin : (i8 : Int) < (n8 : Int) := by omega
              have e1 : decide ((i8 : Int) < (n8 : Int)) = true := decide_eq_true hin
              obtain ⟨x2, s3, hdc⟩ : ∃ a b, decS x st = (a, b) := ⟨_, _, rfl⟩
              have hm9 := dec_mu x st hb
              have hE2 := HD.out
              rw [declA_dec x st hb hnil, hdc] at hE2
              rw [hdc] at hm9
              have HE2 := Aside0.mk hE2
              have HM9 := Aside0.mk hm9
              have HDCS := Aside0.mk hdc
              clear hE2 hm9 hdc hb HD hlen hnil hnl
              have d0 : wr.drew.cell? ⟨p, 0, none⟩ = some (.slice A8 n8 c8) := c0
              have d1 : wr.drew.cell? ⟨p, 1, none⟩ = some (.int .i64 (i8 : Int)) := c1
              have d2 := c2
              replace d2 : wr.drew.cell? ⟨p, 2, none⟩ = _ := d2
              go_upto_region 8 with fail
              go_quiet (fail)
              all_goals
                have HD9 := HDD.out nq
                obtain ⟨wq, hwq⟩ : ∃ x, wr.drewN nq = x := ⟨_, rfl⟩
                rw [hwq] at HD9 ⊢
                clear c0 c1 c2 d0 d1 d2 hwq HDD HDX HPD
                go_wp2_with fail
                refine (decl_any w0 w wq p gs nm x st HD9 HWB HLgs HNgs x2 s3 HDCS).mono ?_
                rintro e w9 ⟨rfl, HDS2⟩
                have HDC2 := HDS2
                obtain ⟨_, _, _, _, _, _, _, _, _, HP9, _⟩ := HDC2
                have HMY := Aside0.mk HP9.out.mu
                clear HP9
                go_wp2_with fail
                go_roundw
                case rel => exact ⟨x2, s3, HDS2, HE2⟩
                case measure => rw [HMY.out, HMX.out]; exact HM9.out
      case rest =>
        obtain ⟨w3, hw9⟩ : ∃ x, x = wc := ⟨_, rfl⟩
        subst hw9
        clear HDS HD0
        obtain ⟨Am, cm, Ae, ce, At, ct, xm, xe, xt, HP3, HG3, HKX, HM3, HE3, HT3, HSR, HLN⟩ := hcut
        have HK3 := Aside0.mk (grown_block HG3.out HKR.out HNP.out)
        have HB3 := Aside0.mk (HBE.out.grown HG3.out HBE.out.size (fun k hk => by injection hk with hk; rw [← hk]; exact HPW.out))
        have HBW : Aside0 (we.heap.size ≤ w.heap.size) := ⟨HBE.out.size⟩
        have HRB : Aside0 (gR < w.heap.size) := ⟨blk_lt HKR.out⟩
        obtain ⟨B, hB⟩ : ∃ x, w.heap.size = x := ⟨_, rfl⟩
        have HBx : Aside0 (B ≤ w3.heap.size) := ⟨by rw [← hB]; exact HG3.out.size⟩
        rw [hB] at HM3 HE3 HT3 HBW HRB HLgs
        have HNX : Aside0 (gR ≠ gs) := ⟨fun e => by have := HRB.out; have := HLgs.out; omega⟩
        clear hB HG3 HKR HBE HWB H
        obtain ⟨A8, c8, l8, i8, hk8, hr8, hi8, hd8⟩ := HP3.out.pr.par
        obtain ⟨n8, hn8⟩ : ∃ n, l8.length = n := ⟨_, rfl⟩
        rw [hn8] at hk8 hi8
        have c0 : w3.cell? ⟨p, 0, none⟩ = some (.slice A8 n8 c8) := blk_cell hk8 0
        have c1 : w3.cell? ⟨p, 1, none⟩ = some (.int .i64 (i8 : Int)) := blk_cell hk8 1
        have c2 : w3.cell? ⟨p, 2, none⟩ = some (.bool S6.2) := blk_cell hk8 2
        have hn8x := hr8.1.2
        rw [hn8] at hn8x
        clear hk8
        obtain ⟨l6, b6⟩ := S6
        have hP2 := HPT2.out
        simp only at hP2 c2 hd8
        cases b6 with
        | true =>
          simp only [if_true] at hP2
          obtain ⟨rfl, hP3⟩ := Prod.mk.inj hP2
          obtain ⟨hat, rfl⟩ := Prod.mk.inj hP3
          clear hP2 hP3
          have e0 : ∀ m, (w3.drewN m).cell? ⟨p, 0, none⟩ = some (.slice A8 n8 c8) := fun _ => c0
          have e1 : ∀ m, (w3.drewN m).cell? ⟨p, 1, none⟩ = some (.int .i64 (i8 : Int)) := fun _ => c1
          have hlen : l6.length = n8 - i8 := by rw [hd8, List.length_drop, hn8]
          have HKN : Aside0 (∀ m, (w3.drewN m).heap[gR]? = _) := ⟨fun _ => HK3.out⟩
          have HBN : Aside0 (∀ m, Below we.heap.size we (w3.drewN m)) := ⟨fun m => HB3.out.trans (((Drawn0.refl _).step m).below.mono HB3.out.size)⟩
          cases l6 with
          | nil =>
            simp only at hat
            subst hat
            have hin : ¬ (i8 : Int) < (n8 : Int) := by simp only [List.length_nil] at hlen; omega
            have e9 : decide ((i8 : Int) < (n8 : Int)) = false := decide_eq_false hin
            clear hr8 hd8 hn8 hlen
            have d0 : w3.drew.cell? ⟨p, 0, none⟩ = some (.slice A8 n8 c8) := c0
            have d1 : w3.drew.cell? ⟨p, 1, none⟩ = some (.int .i64 (i8 : Int)) := c1
            go_upto_region 12 with fail
            go_quiet (fail)
            all_goals
              have HKQ := Aside0.mk (HKN.out nq)
              have HBQ := Aside0.mk (HBN.out nq)
              obtain ⟨wq, hwq⟩ : ∃ x, w3.drewN nq = x := ⟨_, rfl⟩
              rw [hwq] at HKQ HBQ ⊢
              clear hwq HKN HBN c0 c1 c2 d0 d1 e0 e1
              have hfz := fun i => blk_frozen HKQ.out i
              have z0 : wq.cell? ⟨gR, 0, none⟩ = some (.string ⟨#[]⟩) := blk_cell HKQ.out 0
              have z1 : wq.cell? ⟨gR, 1, none⟩ = some (.slice none 0 0) := blk_cell HKQ.out 1
              have z2 : wq.cell? ⟨gR, 2, none⟩ = some (.slice none 0 0) := blk_cell HKQ.out 2
              have z3 : wq.cell? ⟨gR, 3, none⟩ = some (.slice none 0 0) := blk_cell HKQ.out 3
              go_wp2_with fail
              change bodyPost _ _ _ _ _ (put4 wq gR (.string ⟨#[]⟩) (.slice none 0 0) (.slice none 0 0) (.slice none 0 0))
              have hk8 := put4_blk HKQ.out (.string ⟨#[]⟩) (.slice none 0 0) (.slice none 0 0) (.slice none 0 0)
              have hb8 := put4_below HBQ.out HGR.out (.string ⟨#[]⟩) (.slice none 0 0) (.slice none 0 0) (.slice none 0 0)
              obtain ⟨w8, hw8⟩ : ∃ x, put4 wq gR (.string ⟨#[]⟩) (.slice none 0 0) (.slice none 0 0) (.slice none 0 0) = x := ⟨_, rfl⟩
              rw [hw8] at hk8 hb8 ⊢
              clear hw8 z0 z1 z2 z3 hfz
              have z0 : w8.cell? ⟨gR, 0, none⟩ = some (.string ⟨#[]⟩) := blk_cell hk8 0
              have z1 : w8.cell? ⟨gR, 1, none⟩ = some (.slice none 0 0) := blk_cell hk8 1
              have z2 : w8.cell? ⟨gR, 2, none⟩ = some (.slice none 0 0) := blk_cell hk8 2
              have z3 : w8.cell? ⟨gR, 3, none⟩ = some (.slice none 0 0) := blk_cell hk8 3
              refine bodyPost_ret (v := .tuple #[.agg #[.string ⟨#[]⟩, .slice none 0 0, .slice none 0 0, .slice none 0 0], .int .i64 (s.size : Int), .int .i64 5]) ?_ rfl ?_
              · rw [results_cell3 rfl]
                go_simp
                first | rfl | done
              · exact ⟨_, _, _, rfl, ⟨ScAll.nil _⟩, ⟨hb8⟩⟩
          | cons k l6 =>
            simp only at hat
            subst hat
            have hin : (i8 : Int) < (n8 : Int) := by simp only [List.length_cons] at hlen; omega
            have hin2 : i8 < n8 := by omega
            have e9 : decide ((i8 : Int) < (n8 : Int)) = true := decide_eq_true hin
            have hlk : l8[i8]? = some k := by
              have h9 : (l8.drop i8)[0]? = some k := by rw [← hd8]; rfl
              rw [List.getElem?_drop] at h9
              exact h9
            obtain ⟨g8, o8, rfl, hc8⟩ := hr8.2.2.2 (by rw [hn8]; omega)
            have hx8 := pw_cell_below HP3.out.bel (hc8 i8 k hlk).2.2
            have x8 : ∀ m, (w3.drewN m).cell? ⟨g8, o8 + i8 * 3 + 2, none⟩ = some (.int .i64 (k.at_ : Int)) := fun _ => hx8
            clear hr8 hd8 hn8 hlen hc8 hx8 hlk
            have d0 : w3.drew.cell? ⟨p, 0, none⟩ = some (.slice (some ⟨g8, o8, none⟩) n8 c8) := c0
            have d1 : w3.drew.cell? ⟨p, 1, none⟩ = some (.int .i64 (i8 : Int)) := c1
            go_upto_region 12 with fail
            go_quiet (fail)
            all_goals
              go_upto_region 13 with fail
              have f0 := e0 nq
              have f1 := e1 nq
              have f2 := x8 nq
              have HKQ := Aside0.mk (HKN.out nq)
              have HBQ := Aside0.mk (HBN.out nq)
              obtain ⟨wq, hwq⟩ : ∃ x, w3.drewN nq = x := ⟨_, rfl⟩
              rw [hwq] at HKQ HBQ f0 f1 f2 ⊢
              clear hwq HKN HBN c0 c1 c2 d0 d1 e0 e1 x8
              have HKN : Aside0 (∀ m, (wq.drewN m).heap[gR]? = _) := ⟨fun _ => HKQ.out⟩
              have HBN : Aside0 (∀ m, Below we.heap.size we (wq.drewN m)) := ⟨fun m => HBQ.out.trans (((Drawn0.refl _).step m).below.mono HBQ.out.size)⟩
              have g0 : wq.drew.cell? ⟨p, 0, none⟩ = some (.slice (some ⟨g8, o8, none⟩) n8 c8) := f0
              have g1 : wq.drew.cell? ⟨p, 1, none⟩ = some (.int .i64 (i8 : Int)) := f1
              have g2 : wq.drew.cell? ⟨g8, o8 + i8 * 3 + 2, none⟩ = some (.int .i64 (k.at_ : Int)) := f2
              go_quiet (fail)
              all_goals
                have HKU := Aside0.mk (HKN.out nq)
                have HBU := Aside0.mk (HBN.out nq)
                obtain ⟨wu, hwu⟩ : ∃ x, wq.drewN nq = x := ⟨_, rfl⟩
                rw [hwu] at HKU HBU ⊢
                clear hwu HKN HBN f0 f1 f2 g0 g1 g2
                have hfz := fun i => blk_frozen HKU.out i
                have z0 : wu.cell? ⟨gR, 0, none⟩ = some (.string ⟨#[]⟩) := blk_cell HKU.out 0
                have z1 : wu.cell? ⟨gR, 1, none⟩ = some (.slice none 0 0) := blk_cell HKU.out 1
                have z2 : wu.cell? ⟨gR, 2, none⟩ = some (.slice none 0 0) := blk_cell HKU.out 2
                have z3 : wu.cell? ⟨gR, 3, none⟩ = some (.slice none 0 0) := blk_cell HKU.out 3
                go_wp2_with fail
                change bodyPost _ _ _ _ _ (put4 wu gR (.string ⟨#[]⟩) (.slice none 0 0) (.slice none 0 0) (.slice none 0 0))
                have hk8 := put4_blk HKU.out (.string ⟨#[]⟩) (.slice none 0 0) (.slice none 0 0) (.slice none 0 0)
                have hb8 := put4_below HBU.out HGR.out (.string ⟨#[]⟩) (.slice none 0 0) (.slice none 0 0) (.slice none 0 0)
                obtain ⟨w8, hw8⟩ : ∃ x, put4 wu gR (.string ⟨#[]⟩) (.slice none 0 0) (.slice none 0 0) (.slice none 0 0) = x := ⟨_, rfl⟩
                rw [hw8] at hk8 hb8 ⊢
                clear hw8 z0 z1 z2 z3 hfz
                have z0 : w8.cell? ⟨gR, 0, none⟩ = some (.string ⟨#[]⟩) := blk_cell hk8 0
                have z1 : w8.cell? ⟨gR, 1, none⟩ = some (.slice none 0 0) := blk_cell hk8 1
                have z2 : w8.cell? ⟨gR, 2, none⟩ = some (.slice none 0 0) := blk_cell hk8 2
                have z3 : w8.cell? ⟨gR, 3, none⟩ = some (.slice none 0 0) := blk_cell hk8 3
                refine bodyPost_ret (v := .tuple #[.agg #[.string ⟨#[]⟩, .slice none 0 0, .slice none 0 0, .slice none 0 0], .int .i64 (k.at_ : Int), .int .i64 5]) ?_ rfl ?_
                · rw [results_cell3 rfl]
                  go_simp
                  first | rfl | done
                · exact ⟨_, _, _, rfl, ⟨ScAll.nil _⟩, ⟨hb8⟩⟩
        | false =>
          simp only [Bool.false_eq_true, if_false] at hP2
          obtain ⟨hx9, hP3⟩ := Prod.mk.inj hP2
          obtain ⟨rfl, rfl⟩ := Prod.mk.inj hP3
          have HXX := Aside0.mk hx9
          clear hP2 hP3 hx9 hr8 hd8 hn8 hi8 hn8x c0 c1
          obtain ⟨_, hXl, hCm⟩ := Kd.R_reads' HM3.out
          have HCL := Aside0.mk (show xm.length ≤ cm ∧ xm.length ≤ 9223372036854775807 from ⟨hXl, hCm.2.1⟩)
          obtain ⟨_, hEl, hCe⟩ := Kd.R_reads' HE3.out
          obtain ⟨gm, hgm⟩ : ∃ gm, 0 < xm.length → Am = some ⟨gm, 0, none⟩ ∧ MsgsAt w3 B gm xm := by
            by_cases h0 : 0 < xm.length
            · obtain ⟨g9, h1, h2⟩ := msgs_of_R HM3.out h0
              exact ⟨g9, fun _ => ⟨h1, h2⟩⟩
            · exact ⟨0, fun h => absurd h h0⟩
          have HGM := Aside0.mk hgm
          have HFF : Aside0 (∀ y ∈ xm, y.1.f1.length ≤ 9223372036854775807 ∧ ∀ f ∈ y.1.f1, f.f3.f0 ≠ 7) := ⟨fun y hy => by
            obtain ⟨i, hi⟩ := List.getElem?_of_mem hy
            obtain ⟨_, hms⟩ := hgm (by have := (List.getElem?_eq_some_iff.1 hi).1; omega)
            obtain ⟨v1, v2, hma⟩ := hms.el i y hi
            obtain ⟨A9, c9, rfl, _⟩ := Kd.Q_slice hma.q1
            obtain ⟨_, _, hC9⟩ := Kd.Q_reads' hma.q1
            refine ⟨hC9.2.1, fun f hf => ?_⟩
            have h8 : y.1 ∈ X.msgs.map gSr := by rw [← HSR.out.ms]; exact List.mem_map.2 ⟨y, hy, rfl⟩
            obtain ⟨m, hm, hmy⟩ := List.mem_map.1 h8
            rw [← hmy] at hf
            obtain ⟨fd, hfd, rfl⟩ := List.mem_map.1 (show f ∈ m.fields.map rS from hf)
            have h9 := (HOKX.out.fs m hm fd hfd).1
            show ((fd.kind : Nat) : Int) ≠ 7
            omega⟩
          have hXl2 := hCm.2.1
          have hEl2 := hCe.2.1
          have HAP := Aside0.mk HSR.out.ap
          clear hXl hEl hCm hCe hgm
          have cE : w3.cell? ⟨gs, 2, none⟩ = some (.slice Ae xe.length ce) := blk_cell HKX.out 2
          go_upto_block 2 with fail
          clear c2 cE
          go_cut [] (fun wc => Aside0 (0 < xm.length → MsgsAt wc B gm (xm.map (r2M xe))) ∧ Aside0 (Below B w3 wc) ∧ Aside0 (ResFr w3 wc))
          case first =>
            go_wp2_with fail
            go_loopw [10] (fun u wr => ∃ (i : Nat) (X1 : List Ms), u = .int .i64 (i : Int) ∧ i ≤ xm.length ∧ Aside0 (UpG (r2M xe) xm X1 i) ∧ Aside0 (0 < xm.length → MsgsAt wr B gm X1) ∧ Aside0 (Below B w3 wr) ∧ Aside0 (ResFr w3 wr)) (fun u _ => xm.length - (intOf u).toNat)
            case atStart => exact ⟨0, xm, rfl, Nat.zero_le _, ⟨UpG.zero _ xm⟩, ⟨fun h9 => (HGM.out h9).2⟩, ⟨Below.refl _ _⟩, ⟨ResFr.of_below (Below.refl _ _)⟩⟩
            case round =>
              obtain ⟨i, X1, rfl, hi, HU, HMs, HBr, HFr⟩ := hrel
              obtain ⟨wo, hwo⟩ : ∃ x, x = wr := ⟨_, rfl⟩
              subst hwo
              have b1 : wo.cell? ⟨gs, 1, none⟩ = some (.slice Am xm.length cm) := blk_cell (HFr.out gs _ _ HKX.out (by decide)) 1
              by_cases hlt : i < xm.length
              · have d1 : decide ((i : Int) < (xm.length : Int)) = true := decide_eq_true (by omega)
                have d3 : (i : Int) < (xm.length : Int) := by omega
                have hA := (HGM.out (by omega)).1
                subst hA
                obtain ⟨x0, hx0⟩ : ∃ x, xm[i]? = some x := ⟨_, List.getElem?_eq_getElem hlt⟩
                have hX0 := HU.out.el i x0 hx0
                rw [if_neg (Nat.lt_irrefl i)] at hX0
                have hms := HMs.out (by omega)
                obtain ⟨v1, v2, hma⟩ := hms.el i x0 hX0
                obtain ⟨A1, k1, rfl, _⟩ := Kd.Q_slice hma.q1
                obtain ⟨A2, k2, rfl, _⟩ := Kd.Q_slice hma.q2
                obtain ⟨n1, hn1⟩ : ∃ n, x0.1.f1.length = n := ⟨_, rfl⟩
                obtain ⟨n2, hn2⟩ : ∃ n, x0.1.f2.length = n := ⟨_, rfl⟩
                rw [hn1, hn2] at hma
                have hff := HFF.out x0 (List.mem_of_getElem? hx0)
                have HN1 := Aside0.mk hn1
                have HX0 := Aside0.mk hx0
                have HXI := Aside0.mk hX0
                have hn1l : n1 ≤ 9223372036854775807 := by rw [← hn1]; exact hff.1
                have HFT := Aside0.mk hff.2
                have HMA := Aside0.mk hma
                have HMS := Aside0.mk hms
                have HPR := Aside0.mk (HU.out.pair HAP.out)
                clear hff hn1 hn2 hx0 hX0 hms hma
                go_wp2_with fail
                go_loopw [11] (fun u wr => ∃ (j : Nat) (F : List S43), u = .int .i64 (j : Int) ∧ j ≤ n1 ∧ Aside0 (UpG (r2 xe) x0.1.f1 F j) ∧ Aside0 (MsgsAt wr B gm (X1.set i (⟨x0.1.f0, F, x0.1.f2⟩, x0.2.1, x0.2.2))) ∧ Aside0 (MsgAt wr B gm i (⟨x0.1.f0, F, x0.1.f2⟩, x0.2.1, x0.2.2) (.slice A1 n1 k1) (.slice A2 n2 k2)) ∧ Aside0 (Below B w3 wr) ∧ Aside0 (ResFr w3 wr)) (fun u _ => n1 - (intOf u).toNat)
                case atStart =>
                  refine ⟨0, x0.1.f1, rfl, Nat.zero_le _, ⟨UpG.zero _ _⟩, ⟨?_⟩, HMA, HBr, HFr⟩
                  have h9 : X1.set i x0 = X1 := by
                    obtain ⟨hl9, he9⟩ := List.getElem?_eq_some_iff.1 HXI.out
                    rw [← he9, List.set_getElem_self]
                  have h8 : (((⟨x0.1.f0, x0.1.f1, x0.1.f2⟩ : S45), x0.2.1, x0.2.2) : Ms) = x0 := rfl
                  rw [h8, h9]
                  exact HMS.out
                case round =>
                  obtain ⟨j, F, rfl, hj, HUF, HMS4, HMA4, HB4, HF4⟩ := hrel
                  clear HMA HMS HBr HFr b1 d1 HMs
                  obtain ⟨wf, hwf⟩ : ∃ x, x = wr := ⟨_, rfl⟩
                  subst hwf
                  have b1 : wf.cell? ⟨gs, 1, none⟩ = some (.slice (some ⟨gm, 0, none⟩) xm.length cm) := blk_cell (HF4.out gs _ _ HKX.out (by decide)) 1
                  have a1 : wf.cell? ⟨gm, i * 3 + 1, none⟩ = some (.slice A1 n1 k1) := HMA4.out.c1
                  by_cases hjl : j < n1
                  · have e1 : decide ((j : Int) < (n1 : Int)) = true := decide_eq_true (by omega)
                    have e3 : (j : Int) < (n1 : Int) := by omega
                    obtain ⟨hnF, _, _⟩ := Kd.Q_reads' HMA4.out.q1
                    obtain ⟨gf, o, cap, hv, _⟩ := Kd.Q_form HMA4.out.q1 (by rw [← hnF]; omega)
                    injection hv with hv hv2 hv3
                    clear hv2 hv3
                    subst hv
                    obtain ⟨f, hf⟩ : ∃ f, x0.1.f1[j]? = some f := ⟨_, List.getElem?_eq_getElem (by rw [HN1.out]; exact hjl)⟩
                    have hFj := HUF.out.el j f hf
                    rw [if_neg (Nat.lt_irrefl j)] at hFj
                    obtain ⟨cs, hcs, hM, hcc, hfz⟩ := Kd.Q_elem HMA4.out.q1 f (j : Int) (by omega) (by omega)
                    rw [Int.toNat_natCast] at hcc hM hfz
                    rw [List.getD_eq_getElem?_getD] at hM
                    have hM2 : k43.M wf B _ (F[j]?.getD f) cs := hM
                    rw [hFj, Option.getD_some] at hM2
                    have hcs2 := k43_openM hM2
                    subst hcs2
                    have k3 : wf.cell? ⟨gf, o + j * 5 + 3, none⟩ = some (.int .i64 f.f3.f0) := hcc 3 _ rfl
                    have z3 : wf.frozen? ⟨gf, o + j * 5 + 3, none⟩ = false := hfz 3
                    have hft := HFT.out f (List.mem_of_getElem? hf)
                    have HF9 := Aside0.mk hf
                    have HFJ := Aside0.mk hFj
                    clear hM hM2 hcc hcs hfz hf hFj hnF
                    by_cases h0 : f.f3.f0 = 0
                    · have e7 : (f.f3.f0 == 0) = true := beq_iff_eq.2 h0
                      obtain ⟨hp1, hp2⟩ := MsgsAt.put2 HMS4.out HPR.out HXI.out HMA4.out HFJ.out 7
                      obtain ⟨cgf, hcgf⟩ := Kd.Q_typed HMA4.out.q1 gf rfl
                      have hgfB : B ≤ gf := Kd.Q_base HMA4.out.q1 gf rfl
                      have HR2 : Aside0 (r2 xe f = putK f (if inE xe f.f3.f1 then 6 else 7)) := ⟨r2_yes xe f h0⟩
                      have hjF : j < F.length := (List.getElem?_eq_some_iff.1 HFJ.out).1
                      have HJF := Aside0.mk hjF
                      have hb5 := HB4.out.setCell (p := ⟨gf, o + j * 5 + 3, none⟩) hgfB (.int .i64 7)
                      have HF5 : Aside0 (ResFr w3 (wf.setCell ⟨gf, o + j * 5 + 3, none⟩ (.int .i64 7))) := ⟨HF4.out.trans (fun k8 c8 t8 h8 ht8 => by
                          rw [Below.heap_setCell _ _ _ _ (fun e => ?_)]
                          · exact h8
                          · have e' : k8 = gf := e
                            rw [e', hcgf] at h8
                            injection h8 with h8
                            injection h8 with _ h8
                            exact ht8 h8.symm)⟩
                      have HP1 := Aside0.mk hp1
                      have HP2 := Aside0.mk hp2
                      have HB5 := Aside0.mk hb5
                      have HGF := Aside0.mk hgfB
                      clear hp1 hp2 hb5 hgfB hcgf hjF h0
                      go_upto_region 24 with fail
                      change Code.wp _ _ _ _ (wf.setCell ⟨gf, o + j * 5 + 3, none⟩ (.int .i64 7))
                      obtain ⟨w5, hw5⟩ : ∃ x, wf.setCell ⟨gf, o + j * 5 + 3, none⟩ (.int .i64 7) = x := ⟨_, rfl⟩
                      rw [hw5] at HP1 HP2 HB5 HF5 ⊢
                      clear hw5 b1 a1 k3 z3 e1 e7 HMS4 HMA4 HB4 HF4
                      have cE : w5.cell? ⟨gs, 2, none⟩ = some (.slice Ae xe.length ce) := blk_cell (HF5.out gs _ _ HKX.out (by decide)) 2
                      go_wp2_with fail
                      go_loopw [13] (fun u wr => ∃ (t : Nat) (v : Int), u = .int .i64 (t : Int) ∧ t ≤ xe.length ∧ Aside0 (v = if inE (xe.take t) f.f3.f1 then 6 else 7) ∧ Aside0 (MsgsAt wr B gm (X1.set i (⟨x0.1.f0, F.set j (putK f v), x0.1.f2⟩, x0.2.1, x0.2.2))) ∧ Aside0 (MsgAt wr B gm i (⟨x0.1.f0, F.set j (putK f v), x0.1.f2⟩, x0.2.1, x0.2.2) (.slice (some ⟨gf, o, none⟩) n1 k1) (.slice A2 n2 k2)) ∧ Aside0 (Below B w3 wr) ∧ Aside0 (ResFr w3 wr)) (fun u _ => xe.length - (intOf u).toNat)
                      case atStart => exact ⟨0, 7, rfl, Nat.zero_le _, ⟨rfl⟩, HP1, HP2, HB5, HF5⟩
                      case round =>
                        obtain ⟨t, v, rfl, ht, HV, HP1', HP2', HB6, HF6⟩ := hrel
                        clear HP1 HP2 HB5 HF5 cE
                        obtain ⟨wt, hwt⟩ : ∃ x, x = wr := ⟨_, rfl⟩
                        subst hwt
                        have cE : wt.cell? ⟨gs, 2, none⟩ = some (.slice Ae xe.length ce) := blk_cell (HF6.out gs _ _ HKX.out (by decide)) 2
                        by_cases htl : t < xe.length
                        · have d1 : decide ((t : Int) < (xe.length : Int)) = true := decide_eq_true (by omega)
                          have d9 : (t : Int) < (xe.length : Int) := by omega
                          obtain ⟨x, hx⟩ : ∃ x, xe[t]? = some x := ⟨_, List.getElem?_eq_getElem htl⟩
                          have hr := row_res HE3.out HF6.out (by decide)
                          obtain ⟨A9, c9, e9, _, hC⟩ := Kd.R_reads hr
                          injection e9 with e91 _ _
                          subst e91
                          obtain ⟨ad, had, _⟩ := hC.2.2 (by omega)
                          subst had
                          obtain ⟨g9, rfl⟩ := Kd.R_head hr
                          obtain ⟨cs, _, hM, hcc⟩ := Kd.R_get hr x (t : Int) (by omega) (by omega)
                          rw [Int.toNat_natCast] at hM hcc
                          rw [List.getD_eq_getElem?_getD, hx, Option.getD_some] at hM
                          obtain ⟨v1, rfl, h1⟩ := k68_openM hM
                          have q0 := hcc 0 _ rfl
                          rw [add_at, Nat.zero_add] at q0
                          have q0' : wt.cell? ⟨g9, t * 2, none⟩ = some (.string x.f0) := q0
                          have hFv : (F.set j (putK f v))[j]? = some (putK f v) := List.getElem?_set_self HJF.out
                          have HFV := Aside0.mk hFv
                          obtain ⟨cs5, hcs5, hM5, hcc5, hfz5⟩ := Kd.Q_elem HP2'.out.q1 f (j : Int) (by omega) (by omega)
                          rw [Int.toNat_natCast] at hcc5 hM5 hfz5
                          rw [List.getD_eq_getElem?_getD] at hM5
                          have hM6 : k43.M wt B _ ((F.set j (putK f v))[j]?.getD f) cs5 := hM5
                          rw [hFv, Option.getD_some] at hM6
                          have hcs6 := k43_openM hM6
                          subst hcs6
                          have k4 : wt.cell? ⟨gf, o + j * 5 + 4, none⟩ = some (.string f.f3.f1) := hcc5 4 _ rfl
                          have k4' : wt.cell? ⟨gf, o + j * 5 + 3 + 1, none⟩ = some (.string f.f3.f1) := k4
                          have HK3 := Aside0.mk (show wt.cell? ⟨gf, o + j * 5 + 3, none⟩ = some (.int .i64 v) from hcc5 3 _ rfl)
                          have HZ3 := Aside0.mk (show wt.frozen? ⟨gf, o + j * 5 + 3, none⟩ = false from hfz5 3)
                          have HXE := Aside0.mk hx
                          clear hx hr hC hM hcc q0 h1 hcs5 hM5 hM6 hcc5 hfz5 hFv k4
                          have f0 : wt.drew.cell? ⟨gs, 2, none⟩ = some (.slice (some ⟨g9, 0, none⟩) xe.length ce) := cE
                          have f1 : wt.drew.cell? ⟨g9, t * 2, none⟩ = some (.string x.f0) := q0'
                          have f2 : wt.drew.cell? ⟨gf, o + j * 5 + 3 + 1, none⟩ = some (.string f.f3.f1) := k4'
                          have HDR : Aside0 (∀ m, Below wt.heap.size wt (wt.drewN m)) := ⟨fun m => ((Drawn0.refl _).step m).below⟩
                          have HK3d : Aside0 (∀ m, (wt.drewN m).cell? ⟨gf, o + j * 5 + 3, none⟩ = some (.int .i64 v)) := ⟨fun _ => HK3.out⟩
                          have HZ3d : Aside0 (∀ m, (wt.drewN m).frozen? ⟨gf, o + j * 5 + 3, none⟩ = false) := ⟨fun _ => HZ3.out⟩
                          have hbw9 : B ≤ wt.heap.size := Nat.le_trans HBx.out HB6.out.size
                          have HBT := Aside0.mk hbw9
                          clear hbw9
                          obtain ⟨same, hsame⟩ : ∃ b, decide (x.f0 = f.f3.f1) = b := ⟨_, rfl⟩
                          have htq : (x.f0.toList == f.f3.f1.toList) = same := by
                            refine teq_walk x.f0 f.f3.f1 same ?_
                            rw [← hsame, teq]
                            by_cases h : x.f0 = f.f3.f1
                            · rw [decide_eq_true h, decide_eq_true (by rw [h])]
                            · rw [decide_eq_false h, decide_eq_false (fun h2 => h (bs_inj h2))]
                          have HIN : Aside0 (inE (xe.take (t + 1)) f.f3.f1 = (inE (xe.take t) f.f3.f1 || same)) := ⟨by rw [← hsame]; exact inE_take xe t x HXE.out _⟩
                          clear hsame
                          cases same with
                          | true =>
                            go_upto_region 27 with fail
                            go_quiet (fail)
                            all_goals
                              have hbq := HDR.out nq
                              have y3 := HK3d.out nq
                              have y4 := HZ3d.out nq
                              have hmq := HP1'.out.step (MsgFr.of_below hbq)
                              have hmr := HP2'.out.step HP1'.out.blk (MsgFr.of_below hbq)
                              have hb6 := HB6.out.trans (hbq.mono HBT.out)
                              have hf6 := HF6.out.trans (ResFr.of_below hbq)
                              obtain ⟨wq, hwq⟩ : ∃ x, wt.drewN nq = x := ⟨_, rfl⟩
                              rw [hwq] at hbq y3 y4 hmq hmr hb6 hf6 ⊢
                              obtain ⟨hp1, hp2⟩ := MsgsAt.put2 hmq HPR.out HXI.out hmr HFV.out 6
                              have hss : (F.set j (putK f v)).set j (putK (putK f v) 6) = F.set j (putK f 6) := by rw [List.set_set]; rfl
                              rw [hss] at hp1 hp2
                              obtain ⟨cgf, hcgf⟩ := Kd.Q_typed hmr.q1 gf rfl
                              have HF7 : Aside0 (ResFr w3 (wq.setCell ⟨gf, o + j * 5 + 3, none⟩ (.int .i64 6))) := ⟨hf6.trans (fun k8 c8 t8 h8 ht8 => by
                                  rw [Below.heap_setCell _ _ _ _ (fun e => ?_)]
                                  · exact h8
                                  · have e' : k8 = gf := e
                                    rw [e', hcgf] at h8
                                    injection h8 with h8
                                    injection h8 with _ h8
                                    exact ht8 h8.symm)⟩
                              have HB7 := Aside0.mk (hb6.setCell (p := ⟨gf, o + j * 5 + 3, none⟩) HGF.out (.int .i64 6))
                              have HP7 := Aside0.mk hp1
                              have HQ7 := Aside0.mk hp2
                              have HV7 : Aside0 ((6 : Int) = if inE (xe.take (t + 1)) f.f3.f1 then 6 else 7) := ⟨by rw [HIN.out, Bool.or_true, if_pos rfl]⟩
                              clear hwq hbq hmq hmr hb6 hf6 hp1 hp2 hss hcgf
                              go_wp2_with fail
                              go_roundw
                              case rel => exact ⟨t + 1, 6, by go_num, by omega, HV7, HP7, HQ7, HB7, HF7⟩
                              case measure => simp [intOf]; omega
                          | false =>
                            go_upto_region 27 with fail
                            go_quiet (fail)
                            all_goals
                              have hbq := HDR.out nq
                              have HP7 := Aside0.mk (HP1'.out.step (MsgFr.of_below hbq))
                              have HQ7 := Aside0.mk (HP2'.out.step HP1'.out.blk (MsgFr.of_below hbq))
                              have HB7 := Aside0.mk (HB6.out.trans (hbq.mono HBT.out))
                              have HF7 := Aside0.mk (HF6.out.trans (ResFr.of_below hbq))
                              have HV7 : Aside0 (v = if inE (xe.take (t + 1)) f.f3.f1 then 6 else 7) := ⟨by rw [HIN.out, Bool.or_false]; exact HV.out⟩
                              clear hbq
                              go_wp2_with fail
                              go_roundw
                              case rel => exact ⟨t + 1, v, by go_num, by omega, HV7, HP7, HQ7, HB7, HF7⟩
                              case measure => simp [intOf]; omega
                        · have d1 : decide ((t : Int) < (xe.length : Int)) = false := decide_eq_false (by omega)
                          have HV2 : Aside0 (v = if inE xe f.f3.f1 then 6 else 7) := ⟨by have h9 := HV.out; rw [List.take_of_length_le (by omega)] at h9; exact h9⟩
                          have HUF2 : Aside0 (UpG (r2 xe) x0.1.f1 (F.set j (putK f v)) (j + 1)) := ⟨HUF.out.put HF9.out (by rw [HR2.out, ← HV2.out])⟩
                          go_wp2_with fail
                          go_roundw
                          case rel => exact ⟨j + 1, F.set j (putK f v), by go_num, by omega, HUF2, HP1', HP2', HB6, HF6⟩
                          case measure => simp [intOf]; omega
                    · have e7 : (f.f3.f0 == 0) = false := beq_eq_false_iff_ne.2 h0
                      have HUF2 : Aside0 (UpG (r2 xe) x0.1.f1 F (j + 1)) := ⟨HUF.out.same HF9.out (r2_no xe f h0 hft)⟩
                      clear h0 hft
                      go_wp2_with fail
                      go_roundw
                      case rel => exact ⟨j + 1, F, by go_num, by omega, HUF2, HMS4, HMA4, HB4, HF4⟩
                      case measure => simp [intOf]; omega
                  · have e1 : decide ((j : Int) < (n1 : Int)) = false := decide_eq_false (by omega)
                    have HU2 : Aside0 (UpG (r2M xe) xm (X1.set i (⟨x0.1.f0, F, x0.1.f2⟩, x0.2.1, x0.2.2)) (i + 1)) := ⟨HU.out.put HX0.out (by
                      have h9 := HUF.out
                      rw [show j = x0.1.f1.length by rw [HN1.out]; omega] at h9
                      rw [h9.all]
                      rfl)⟩
                    go_wp2_with fail
                    go_roundw
                    case rel => exact ⟨i + 1, _, by go_num, by omega, HU2, ⟨fun _ => HMS4.out⟩, HB4, HF4⟩
                    case measure => simp [intOf]; omega
              · have d1 : decide ((i : Int) < (xm.length : Int)) = false := decide_eq_false (by omega)
                have HALL : Aside0 (X1 = xm.map (r2M xe)) := ⟨by have h9 := HU.out; rw [show i = xm.length by omega] at h9; exact h9.all⟩
                go_wp2_with fail
                go_meet
                case rel => exact ⟨⟨fun h9 => by rw [← HALL.out]; exact HMs.out h9⟩, HBr, HFr⟩
          case rest =>
            obtain ⟨w4, hw9⟩ : ∃ x, x = wc := ⟨_, rfl⟩
            subst hw9
            obtain ⟨HMS, HB4, HFR⟩ := hcut
            have HK4 := Aside0.mk ((HB4.out.block _ HRB.out).trans HK3.out)
            have HKX4 := Aside0.mk (HFR.out gs _ _ HKX.out (by decide))
            have HE4 := Aside0.mk (row_res HE3.out HFR.out (by decide))
            have HT4 := Aside0.mk (row_res HT3.out HFR.out (by decide))
            have HBW4 := Aside0.mk (HB3.out.trans (HB4.out.mono HBW.out))
            have HSW : Aside0 (ScRows X (xm.map k7M) xe xt) := ⟨⟨k7M_gS X xm HSR.out.ms, HSR.out.es, HSR.out.ts, k7M_pair HSR.out.ap⟩⟩
            have hlk : (xm.map k7M).length = xm.length := List.length_map _
            have HNM : Aside0 (X.name = nm) := ⟨HSR.out.nam⟩
            have z0 : w4.cell? ⟨gR, 0, none⟩ = some (.string ⟨#[]⟩) := blk_cell HK4.out 0
            have z1 : w4.cell? ⟨gR, 1, none⟩ = some (.slice none 0 0) := blk_cell HK4.out 1
            have z2 : w4.cell? ⟨gR, 2, none⟩ = some (.slice none 0 0) := blk_cell HK4.out 2
            have z3 : w4.cell? ⟨gR, 3, none⟩ = some (.slice none 0 0) := blk_cell HK4.out 3
            have hfz := fun i => blk_frozen HK4.out i
            have y0 : w4.cell? ⟨gs, 0, none⟩ = some (.string nm) := blk_cell HKX4.out 0
            have y1 : w4.cell? ⟨gs, 1, none⟩ = some (.slice Am xm.length cm) := blk_cell HKX4.out 1
            have y2 : w4.cell? ⟨gs, 2, none⟩ = some (.slice Ae xe.length ce) := blk_cell HKX4.out 2
            have y3 : w4.cell? ⟨gs, 3, none⟩ = some (.slice At xt.length ct) := blk_cell HKX4.out 3
            go_wp2_with fail
            change bodyPost _ _ _ _ _ (put4 w4 gR (.string nm) (.slice Am xm.length cm) (.slice Ae xe.length ce) (.slice At xt.length ct))
            have hk8 := put4_blk HK4.out (.string nm) (.slice Am xm.length cm) (.slice Ae xe.length ce) (.slice At xt.length ct)
            have hb8 := put4_below HBW4.out HGR.out (.string nm) (.slice Am xm.length cm) (.slice Ae xe.length ce) (.slice At xt.length ct)
            have hrd := scrd_all (w := put4 w4 gR (.string nm) (.slice Am xm.length cm) (.slice Ae xe.length ce) (.slice At xt.length ct)) (Am := Am) (cm := cm) (gm := gm) HXX.out HSW.out (fun h9 => ⟨(HGM.out (by rw [← hlk]; exact h9)).1, by rw [r2M_eq]; exact (HMS.out (by rw [← hlk]; exact h9)).step (fun k8 c8 t8 h8 ht8 => (put4_far _ _ _ _ (fun e9 => by rw [e9, HK4.out] at h8; injection h8 with h8; injection h8 with _ h8; subst h8; revert ht8; decide)).trans h8)⟩) (by rw [hlk]; exact HCL.out) (row_put4 HE4.out HK4.out (by decide) _ _ _ _) (row_put4 HT4.out HK4.out (by decide) _ _ _ _)
            rw [hlk] at hrd
            obtain ⟨w8, hw8⟩ : ∃ x, put4 w4 gR (.string nm) (.slice Am xm.length cm) (.slice Ae xe.length ce) (.slice At xt.length ct) = x := ⟨_, rfl⟩
            rw [hw8] at hk8 hb8 hrd ⊢
            clear hw8 z0 z1 z2 z3 hfz
            have z0 : w8.cell? ⟨gR, 0, none⟩ = some (.string nm) := blk_cell hk8 0
            have z1 : w8.cell? ⟨gR, 1, none⟩ = some (.slice Am xm.length cm) := blk_cell hk8 1
            have z2 : w8.cell? ⟨gR, 2, none⟩ = some (.slice Ae xe.length ce) := blk_cell hk8 2
            have z3 : w8.cell? ⟨gR, 3, none⟩ = some (.slice At xt.length ct) := blk_cell hk8 3
            refine bodyPost_ret (v := .tuple #[.agg #[.string nm, .slice Am xm.length cm, .slice Ae xe.length ce, .slice At xt.length ct], .int .i64 0, .int .i64 0]) ?_ rfl ?_
            · rw [results_cell3 rfl]
              go_simp
              first | rfl | done
            · exact ⟨_, _, _, by rw [← HXX.out, ← HNM.out]; rfl, ⟨hrd⟩, ⟨hb8⟩⟩
end Go.Proofs.YtbfhglaaombglaaDoor
end
section
namespace Go.Proofs.YtbfhglaaombglaaDoor
set_option linter.unusedVariables false
set_option linter.unusedSimpArgs false
open Go.RowKit Go.ChangeMaps Go.Proofs.YtbfhglaaombglaaDoorW.PrintWords Go.Proofs.YtbfhglaaombglaaDoorW.PrintMore Go.Proofs.YtbfhglaaombglaaDoor.PIdlParses
theorem short_rd {w : World} {A1 A2 A3 : Option Addr} {ms : List S45} {es : List S68} {ts : List S72} (h1 : k45.C w A1 ms.length ms) (h2 : k68.C w A2 es.length es) (h3 : k72.C w A3 ts.length ts) : Short ms es ts := by
  refine ⟨h1.2.1, h2.2.1, h3.2.1, fun x hx => ?_, fun x hx => ?_⟩
  · obtain ⟨j, hj, rfl⟩ := List.mem_iff_getElem.1 hx
    obtain ⟨_, _, hc⟩ := h1.2.2 (by omega)
    obtain ⟨cs, _, hK, _⟩ := hc j _ (List.getElem?_eq_getElem hj)
    obtain ⟨_, _, _, _, _, _, C1, _, C2⟩ := k45_open hK
    exact ⟨C1.2.1, C2.2.1⟩
  · obtain ⟨j, hj, rfl⟩ := List.mem_iff_getElem.1 hx
    obtain ⟨_, _, hc⟩ := h2.2.2 (by omega)
    obtain ⟨cs, _, hK, _⟩ := hc j _ (List.getElem?_eq_getElem hj)
    obtain ⟨_, _, _, _, C1⟩ := k68_open hK
    exact C1.2.1
theorem rparse_parts (s : ByteArray) (w : World) (hs : s.size ≤ 140737488351232) (hT : Tabs w) (x : Sc) (at_ er : Nat) (hP : Aside0 (parseF s = (x, at_, er))) (nm : ByteArray) (ms : List S45) (es : List S68) (ts : List S72) (n1 n2 n3 : Nat)
    (h : Aside0 (x.name = nm ∧ x.msgs.map gS = ms ∧ x.enums.map eS = es ∧ x.meths.map mS = ts ∧ ms.length = n1 ∧ es.length = n2 ∧ ts.length = n3)) :
    Calls Tryd.prog 11 #[.string s] w fun e w' => ∃ A1 c1 A2 c2 A3 c3, e = .returned (.tuple #[.agg #[.string nm, .slice A1 n1 c1, .slice A2 n2 c2, .slice A3 n3 c3], .int .i64 (at_ : Int), .int .i64 (er : Int)]) ∧ Aside0 (n1 ≤ c1 ∧ k45.C w' A1 n1 ms) ∧ Aside0 (n2 ≤ c2 ∧ k68.C w' A2 n2 es) ∧ Aside0 (n3 ≤ c3 ∧ k72.C w' A3 n3 ts) ∧ Aside0 (Below w.heap.size w w') := by
  refine (rparse_any s w hs hT x at_ er hP).mono ?_
  rintro e w1 ⟨v1, v2, v3, rfl, HS, HB⟩
  obtain ⟨A1, c1, A2, c2, A3, c3, rfl, l1, C1, rfl, l2, C2, rfl, l3, C3⟩ := HS.out w1 (FrS.refl w1)
  obtain ⟨h1, h2, h3, h4, h5, h6, h7⟩ := h.out
  rw [h2, h5] at l1 C1
  rw [h3, h6] at l2 C2
  rw [h4, h7] at l3 C3
  rw [h1, h2, h3, h4, h5, h6, h7]
  exact ⟨A1, c1, A2, c2, A3, c3, rfl, ⟨l1, C1⟩, ⟨l2, C2⟩, ⟨l3, C3⟩, HB⟩
set_option maxRecDepth 100000 in
set_option maxHeartbeats 4000000 in
theorem parses_any (s : ByteArray) (w : World) (hs : s.size ≤ 140737488351232) (hT : Tabs w) :
    Calls Tryd.prog 3 #[.string s] w fun e w' => e = .returned (.bool true) ∧ Below w.heap.size w w' := by
  have HT := Aside0.mk hT
  clear hT
  by_cases hbig : 20000 < s.size
  · have d1 : decide ((20000 : Int) < (s.size : Int)) = true := decide_eq_true (by omega)
    go_enter Tryd.func3, Tryd.ntmps3
    go_wp2_with fail
    refine (awake_any w HT.out).mono ?_
    rintro e w3 ⟨rfl, hB3⟩
    go_wp2
    go_ret
    exact ⟨rfl, hB3⟩
  · obtain ⟨x, p, er, hP⟩ : ∃ x p er, parseF s = (x, p, er) := ⟨_, _, _, rfl⟩
    have HP := Aside0.mk hP
    clear hP
    obtain ⟨nm, hn⟩ : ∃ y, x.name = y := ⟨_, rfl⟩
    obtain ⟨ms, hm⟩ : ∃ y, x.msgs.map gS = y := ⟨_, rfl⟩
    obtain ⟨es, he⟩ : ∃ y, x.enums.map eS = y := ⟨_, rfl⟩
    obtain ⟨ts, ht⟩ : ∃ y, x.meths.map mS = y := ⟨_, rfl⟩
    obtain ⟨n1, h1⟩ : ∃ y, ms.length = y := ⟨_, rfl⟩
    obtain ⟨n2, h2⟩ : ∃ y, es.length = y := ⟨_, rfl⟩
    obtain ⟨n3, h3⟩ : ∃ y, ts.length = y := ⟨_, rfl⟩
    have HX : Aside0 (x.name = nm ∧ x.msgs.map gS = ms ∧ x.enums.map eS = es ∧ x.meths.map mS = ts ∧ ms.length = n1 ∧ es.length = n2 ∧ ts.length = n3) := ⟨hn, hm, he, ht, h1, h2, h3⟩
    clear hn hm he ht h1 h2 h3
    go_enter Tryd.func3, Tryd.ntmps3
    go_wp2_with fail
    refine (parse_parts s _ hs HT.out x p er HP nm ms es ts n1 n2 n3 HX).mono ?_
    rintro e w1 ⟨A1, k1, A2, k2, A3, k3, rfl, HC1, HC2, HC3, HB1⟩
    have hbx : Below w1.heap.size w1 (w1.alloc (.cells #[.string nm, .slice A1 n1 k1, .slice A2 n2 k2, .slice A3 n3 k3] 27)) := (Below.refl _ _).alloc (Nat.le_refl _) _
    have hk9 := heap_alloc_new w1 (.cells #[.string nm, .slice A1 n1 k1, .slice A2 n2 k2, .slice A3 n3 k3] 27)
    have hgb : w1.heap.size < (w1.alloc (.cells #[.string nm, .slice A1 n1 k1, .slice A2 n2 k2, .slice A3 n3 k3] 27)).heap.size := blk_lt hk9
    have HB2 := Aside0.mk (HB1.out.trans (hbx.mono HB1.out.size))
    have D1 := Aside0.mk (And.intro HC1.out.1 (Kd.C_below HC1.out.2 hbx))
    have D2 := Aside0.mk (And.intro HC2.out.1 (Kd.C_below HC2.out.2 hbx))
    have D3 := Aside0.mk (And.intro HC3.out.1 (Kd.C_below HC3.out.2 hbx))
    clear hbx HB1 HC1 HC2 HC3
    go_upto_region 4 with fail
    change Code.wp _ _ _ _ (w1.alloc (.cells #[.string nm, .slice A1 n1 k1, .slice A2 n2 k2, .slice A3 n3 k3] 27))
    obtain ⟨gx, hgx⟩ : ∃ x, w1.heap.size = x := ⟨_, rfl⟩
    obtain ⟨w2, hw2⟩ : ∃ x, w1.alloc (.cells #[.string nm, .slice A1 n1 k1, .slice A2 n2 k2, .slice A3 n3 k3] 27) = x := ⟨_, rfl⟩
    rw [hgx] at hk9 hgb
    rw [hw2] at hk9 hgb HB2 D1 D2 D3 ⊢
    simp only [hgx]
    clear hw2 hgx
    have HK := Aside0.mk hk9
    have HG := Aside0.mk hgb
    clear hk9 hgb
    go_wp2_with fail
    refine (rparse_parts s w2 hs (tabs_below HT.out HB2.out) x p er HP nm ms es ts n1 n2 n3 HX).mono ?_
    rintro e w5 ⟨B1, l1, B2, l2, B3, l3, rfl, E1, E2, E3, HB5⟩
    have hbx : Below w5.heap.size w5 (w5.alloc (.cells #[.string nm, .slice B1 n1 l1, .slice B2 n2 l2, .slice B3 n3 l3] 27)) := (Below.refl _ _).alloc (Nat.le_refl _) _
    have hb8 := HB5.out.trans (hbx.mono HB5.out.size)
    have hky := heap_alloc_new w5 (.cells #[.string nm, .slice B1 n1 l1, .slice B2 n2 l2, .slice B3 n3 l3] 27)
    have J1 := Aside0.mk (And.intro E1.out.1 (Kd.C_below E1.out.2 hbx))
    have J2 := Aside0.mk (And.intro E2.out.1 (Kd.C_below E2.out.2 hbx))
    have J3 := Aside0.mk (And.intro E3.out.1 (Kd.C_below E3.out.2 hbx))
    clear hbx E1 E2 E3 HB5
    go_upto_region 5 with fail
    change Code.wp _ _ _ _ (w5.alloc (.cells #[.string nm, .slice B1 n1 l1, .slice B2 n2 l2, .slice B3 n3 l3] 27))
    obtain ⟨gz, hgz⟩ : ∃ x, w5.heap.size = x := ⟨_, rfl⟩
    obtain ⟨wz, hwz⟩ : ∃ x, w5.alloc (.cells #[.string nm, .slice B1 n1 l1, .slice B2 n2 l2, .slice B3 n3 l3] 27) = x := ⟨_, rfl⟩
    rw [hgz] at hky
    rw [hwz] at hb8 hky J1 J2 J3 ⊢
    simp only [hgz]
    clear hwz hgz
    have HB8 := Aside0.mk (HB2.out.trans (hb8.mono HB2.out.size))
    have G1 := Aside0.mk (Kd.C_below D1.out.2 hb8)
    have G2 := Aside0.mk (Kd.C_below D2.out.2 hb8)
    have G3 := Aside0.mk (Kd.C_below D3.out.2 hb8)
    have hkx := (hb8.block _ HG.out).trans HK.out
    obtain ⟨_, _, _, _, q1, q2, q3⟩ := HX.out
    subst q1
    subst q2
    subst q3
    have HS := Aside0.mk (short_rd D1.out.2 D2.out.2 D3.out.2)
    obtain ⟨kk, hkk⟩ := same_refl nm ms es ts HS.out
    have HKK := Aside0.mk hkk
    clear hkk
    have y0 : wz.cell? ⟨gx, 0, none⟩ = some (.string nm) := blk_cell hkx 0
    have y1 : wz.cell? ⟨gx, 1, none⟩ = some (.slice A1 ms.length k1) := blk_cell hkx 1
    have y2 : wz.cell? ⟨gx, 2, none⟩ = some (.slice A2 es.length k2) := blk_cell hkx 2
    have y3 : wz.cell? ⟨gx, 3, none⟩ = some (.slice A3 ts.length k3) := blk_cell hkx 3
    have x0 : wz.cell? ⟨gz, 0, none⟩ = some (.string nm) := blk_cell hky 0
    have x1 : wz.cell? ⟨gz, 1, none⟩ = some (.slice B1 ms.length l1) := blk_cell hky 1
    have x2 : wz.cell? ⟨gz, 2, none⟩ = some (.slice B2 es.length l2) := blk_cell hky 2
    have x3 : wz.cell? ⟨gz, 3, none⟩ = some (.slice B3 ts.length l3) := blk_cell hky 3
    clear hb8 hky hkx
    go_wp2_with fail
    refine (concordatlaw00_SameSchemas.calls kk nm A1 k1 ms A2 k2 es A3 k3 ts nm B1 l1 ms B2 l2 es B3 l3 ts true wz G1.out D1.out.1 G2.out D2.out.1 G3.out D3.out.1 J1.out.2 J1.out.1 J2.out.2 J2.out.1 J3.out.2 J3.out.1 HKK.out).mono ?_
    rintro e w7 ⟨rfl, hB7⟩
    have HB9 := Aside0.mk (HB8.out.trans (hB7.mono HB8.out.size))
    clear hB7 y0 y1 y2 y3 x0 x1 x2 x3
    go_wp2_with fail
    refine (awake_any _ (tabs_below HT.out HB9.out)).mono ?_
    rintro e w8 ⟨rfl, hB8⟩
    have HBA := Aside0.mk (HB9.out.trans (hB8.mono HB9.out.size))
    clear hB8
    go_wp2
    go_ret
    exact ⟨rfl, HBA.out⟩
end Go.Proofs.YtbfhglaaombglaaDoor
end
