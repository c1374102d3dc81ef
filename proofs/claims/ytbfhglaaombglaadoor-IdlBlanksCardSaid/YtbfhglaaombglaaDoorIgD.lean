/- Texts of the parser's walk, laid together. -/
import Derived.Test.YtbfhglaaombglaaDoorIgC
import Derived.Deep.RegionLaw
import Derived.WalkKit
import Derived.ProofKit
import Derived.Maps.Keyed
import Derived.Test.YtbfhglaaombglaaDoorProg
import Derived.Test.YtbfhglaaombglaaDoorWWords
import Derived.StringKeys
/- The parser: message. -/
namespace Go.Proofs.YtbfhglaaombglaaDoor
set_option linter.unusedVariables false
set_option linter.unusedSimpArgs false
open Go.RowKit Go.Proofs.YtbfhglaaombglaaDoorW.PrintWords Go.Proofs.YtbfhglaaombglaaDoor.PIdlParses

theorem field_any2 (w0 w : World) (p : Nat) (st : St) (H : Aside0 (PS w0 w p st)) (f : Fd) (hf : Aside0 (fieldV st = f)) (s2 : St) (hs : Aside0 (fieldM st = s2)) :
    Calls Tryd.prog 55 #[.pointer (some ⟨p, 0, none⟩)] w fun e w' => e = .returned (.agg #[.string f.name, .int .i64 (f.tag : Int), .int .i64 (f.label : Int), .int .i64 (kk7 f.kind : Int), .string f.tname]) ∧ Aside0 (PS w0 w' p s2) ∧ Aside0 (w.grownBy w' (some p)) := by
  have h := field_any w0 w p st H
  rw [hf.out, hs.out] at h
  exact h
set_option maxRecDepth 100000 in
set_option maxHeartbeats 8000000 in
theorem message_any (w0 w : World) (p : Nat) (st : St) (H : Aside0 (PS w0 w p st)) :
    Calls Tryd.prog 35 #[.pointer (some ⟨p, 0, none⟩)] w fun e w' => ∃ vF vN, e = .returned (.agg #[.string (messV st).name, vF, vN]) ∧ Aside0 (k43.R 43 w' w.heap.size (fun _ => True) vF ((messV st).fields.map fS)) ∧ Aside0 ((Kd.int .i64).R 3 w' w.heap.size (fun _ => True) vN (nums_ (messV st).res)) ∧ Aside0 (PS w0 w' p (messM st)) ∧ Aside0 (w.grownBy w' (some p)) := by
  have hmu0 : mu (need c_open (nameM st)) ≤ 20001 := by
    have h1 := mu_name st
    have h2 := mu_need c_open (nameM st)
    have h3 : mu st ≤ 20001 := by have := H.out.len; unfold mu; split <;> omega
    omega
  obtain ⟨s1, hs1⟩ : ∃ s, nameM st = s := ⟨_, rfl⟩
  obtain ⟨s2, hs2⟩ : ∃ s, need c_open s1 = s := ⟨_, rfl⟩
  obtain ⟨nm, hnm⟩ : ∃ x, nameV st = x := ⟨_, rfl⟩
  obtain ⟨FF, RR, S6, hE⟩ : ∃ a b c, msgA [] [] s2 = (a, b, c) := ⟨_, _, _, rfl⟩
  have HFV : Aside0 (messV st = ⟨nm, FF, RR⟩) := ⟨by rw [messV]; simp only [hs1, hs2, hE, hnm]⟩
  have HFM : Aside0 (messM st = S6) := ⟨by rw [messM, hs1, hs2, hE]⟩
  rw [hs1, hs2] at hmu0
  have As1 := Aside0.mk hs1
  have As2 := Aside0.mk hs2
  have Anm := Aside0.mk hnm
  have HE0 := Aside0.mk hE
  clear hs1 hs2 hnm hE
  have HLT := Aside0.mk H.out.lt
  go_enter Tryd.func35, Tryd.ntmps35
  go_upto_region 1 with fail
  change Code.wp _ _ _ _ (w.alloc (.cells #[.string ⟨#[]⟩, .slice none 0 0, .slice none 0 0] 45))
  have hbel : Below w.heap.size w (w.alloc (.cells #[.string ⟨#[]⟩, .slice none 0 0, .slice none 0 0] 45)) := ((Below.refl w.heap.size w).alloc (Nat.le_refl _) _)
  have hgR : (w.alloc (.cells #[.string ⟨#[]⟩, .slice none 0 0, .slice none 0 0] 45)).heap[w.heap.size]? = some (.cells #[.string ⟨#[]⟩, .slice none 0 0, .slice none 0 0] 45 (0, 0)) := by
    have h9 := heap_alloc_new w (.cells #[.string ⟨#[]⟩, .slice none 0 0, .slice none 0 0] 45)
    exact h9
  obtain ⟨gR, hggR⟩ : ∃ g, w.heap.size = g := ⟨_, rfl⟩
  have hps := H.out.below hbel
  obtain ⟨w1, hw9⟩ : ∃ x, (w.alloc (.cells #[.string ⟨#[]⟩, .slice none 0 0, .slice none 0 0] 45)) = x := ⟨_, rfl⟩
  rw [hggR, hw9] at hgR
  rw [hw9] at hps hbel ⊢
  have HPw1 := Aside0.mk hps
  have HBw1 := Aside0.mk (below_grownBy hbel (some p))
  have HgRw1 := Aside0.mk hgR
  have HLgR : Aside0 (w.heap.size ≤ gR) := ⟨by omega⟩
  have HNgR : Aside0 (gR ≠ p) := ⟨by have := HLT.out; omega⟩
  have HWgR : Aside0 (w0.heap.size ≤ gR) := ⟨Nat.le_trans H.out.bel.size HLgR.out⟩
  simp only [hggR]
  clear hw9 hps hbel hggR hgR
  go_wp2_with fail
  refine (pname_any w0 w1 p st HPw1 nm Anm s1 As1).mono ?_
  rintro e w2 ⟨rfl, HPw2, hb9⟩
  have HBw2 := Aside0.mk (HBw1.out.trans hb9.out)
  have HgRw2 := Aside0.mk (grown_block hb9.out HgRw1.out HNgR.out)
  clear hb9 HPw1 HBw1 HgRw1
  go_upto_region 2 with fail
  change Code.wp _ _ _ _ (w2.alloc (.cells #[.string nm, .slice none 0 0, .slice none 0 0] 45))
  have hbel : Below w2.heap.size w2 (w2.alloc (.cells #[.string nm, .slice none 0 0, .slice none 0 0] 45)) := (Below.refl _ _).alloc (Nat.le_refl _) _
  have hk9 := heap_alloc_new w2 (.cells #[.string nm, .slice none 0 0, .slice none 0 0] 45)
  have hps := HPw2.out.below hbel
  have hb9 := HBw2.out.trans (below_grownBy hbel (some p))
  have hkgR := (hbel.block _ (blk_lt HgRw2.out)).trans HgRw2.out
  obtain ⟨gX, hggX⟩ : ∃ g, w2.heap.size = g := ⟨_, rfl⟩
  have HLgX : Aside0 (w.heap.size ≤ gX) := ⟨by rw [← hggX]; exact HBw2.out.size⟩
  have HNgX : Aside0 (gX ≠ p) := ⟨by rw [← hggX]; exact fun e => by have := HPw2.out.lt; omega⟩
  have HWgX : Aside0 (w0.heap.size ≤ gX) := ⟨by rw [← hggX]; exact HPw2.out.bel.size⟩
  have HDgRgX : Aside0 (gR ≠ gX) := ⟨by rw [← hggX]; exact fun e => by have := blk_lt HgRw2.out; omega⟩
  obtain ⟨w3, hw9⟩ : ∃ x, w2.alloc (.cells #[.string nm, .slice none 0 0, .slice none 0 0] 45) = x := ⟨_, rfl⟩
  rw [hggX] at hk9
  rw [hw9] at hps hb9 hk9 hkgR ⊢
  have HPw3 := Aside0.mk hps
  have HBw3 := Aside0.mk hb9
  have HgXw3 := Aside0.mk hk9
  have HgRw3 := Aside0.mk hkgR
  simp only [hggX]
  clear hw9 hps hb9 hk9 hbel hggX hkgR HPw2 HBw2 HgRw2
  go_wp2_with fail
  refine (needs_lit w0 w3 p s1 HPw3 [c_open] (by decide) s2 ⟨As2.out⟩ _ rfl 1 rfl).mono ?_
  rintro e w4 ⟨rfl, HPw4, hb9⟩
  have HBw4 := Aside0.mk (HBw3.out.trans hb9.out)
  have HgRw4 := Aside0.mk (grown_block hb9.out HgRw3.out HNgR.out)
  have HgXw4 := Aside0.mk (grown_block hb9.out HgXw3.out HNgX.out)
  clear hb9 HPw3 HBw3 HgRw3 HgXw3
  go_wp2_with fail
  go_loopw [] (fun wr => ∃ (f : List Fd) (q : List S43) (r : List Nat) (ri : List Int) (s : St) (A : Option Addr) (c : Nat) (Ar : Option Addr) (cr : Nat), Aside0 (f.map fS = q) ∧ Aside0 (nums_ r = ri) ∧ Aside0 (msgA f r s = (FF, RR, S6)) ∧ q.length + mu s ≤ 20001 ∧ ri.length + mu s ≤ 20001 ∧ Aside0 (PS w0 wr p s) ∧ Aside0 (w.grownBy wr (some p)) ∧ Aside0 (wr.heap[gR]? = some (.cells #[.string ⟨#[]⟩, .slice none 0 0, .slice none 0 0] 45 (0, 0))) ∧ Aside0 (wr.heap[gX]? = some (.cells #[.string nm, .slice A q.length c, .slice Ar ri.length cr] 45 (0, 0))) ∧ Aside0 (k43.R 43 wr w.heap.size (fun _ => True) (.slice A q.length c) (q)) ∧ Aside0 ((Kd.int .i64).R 3 wr w.heap.size (fun _ => True) (.slice Ar ri.length cr) (ri))) (fun wr => muW wr p)
  case atStart => exact ⟨[], [], [], [], s2, none, 0, none, 0, ⟨rfl⟩, ⟨rfl⟩, HE0, by simpa using hmu0, by simpa using hmu0, HPw4, HBw4, HgRw4, HgXw4, ⟨Kd.R_nil _ _ _ _ _⟩, ⟨Kd.R_nil _ _ _ _ _⟩⟩
  case round =>
    clear HE0 hmu0 HPw4 HBw4 HgRw4 HgXw4
    obtain ⟨f, q, r, ri, s, A, c, Ar, cr, HFQ, HRQ, HE, hls, hlr, HPwr, HBwr, HgRwr, HgXwr, HFwr, HNwr⟩ := hrel
    obtain ⟨wo, hwo⟩ : ∃ x, x = wr := ⟨_, rfl⟩
    subst hwo
    have HPwo := HPwr
    have HBwo := HBwr
    have HgRwo := HgRwr
    have HgXwo := HgXwr
    have HFwo := HFwr
    have HNwo := HNwr
    clear HPwr HBwr HgRwr HgXwr HFwr HNwr
    have HM := Aside0.mk HPwo.out.mu
    obtain ⟨u9, hk9⟩ := HPwo.out.wrong
    have c1 : wo.cell? ⟨p, 1, none⟩ = some (.bool s.2) := blk_cell hk9 1
    clear hk9
    cases hb : s.2 with
    | true =>
      rw [hb] at c1
      have hE2 := HE.out
      rw [msgA_done f r s hb] at hE2
      obtain ⟨rfl, hE3⟩ := Prod.mk.inj hE2
      obtain ⟨rfl, rfl⟩ := Prod.mk.inj hE3
      clear hE2 hE3 hb
      have zgX0 : wo.cell? ⟨gX, 0, none⟩ = some (.string nm) := blk_cell HgXwo.out 0
      have zgX1 : wo.cell? ⟨gX, 1, none⟩ = some (.slice A q.length c) := blk_cell HgXwo.out 1
      have zgX2 : wo.cell? ⟨gX, 2, none⟩ = some (.slice Ar ri.length cr) := blk_cell HgXwo.out 2
      have zgR0 : wo.cell? ⟨gR, 0, none⟩ = some (.string ⟨#[]⟩) := blk_cell HgRwo.out 0
      have zgR1 : wo.cell? ⟨gR, 1, none⟩ = some (.slice none 0 0) := blk_cell HgRwo.out 1
      have zgR2 : wo.cell? ⟨gR, 2, none⟩ = some (.slice none 0 0) := blk_cell HgRwo.out 2
      have hfzgR := fun i => blk_frozen HgRwo.out i
      go_wp2_with fail
      change bodyPost _ _ _ _ _ (((wo.setCell ⟨gR, 0, none⟩ (.string nm)).setCell ⟨gR, 1, none⟩ (.slice A q.length c)).setCell ⟨gR, 2, none⟩ (.slice Ar ri.length cr))
      have hps := (((HPwo.out.far HNgR.out HWgR.out 0 (.string nm)).far HNgR.out HWgR.out 1 (.slice A q.length c)).far HNgR.out HWgR.out 2 (.slice Ar ri.length cr))
      have hb9 := (grown_far (grown_far (grown_far HBwo.out HLgR.out 0 (.string nm)) HLgR.out 1 (.slice A q.length c)) HLgR.out 2 (.slice Ar ri.length cr))
      have hk9 := (blk_set (blk_set (blk_set HgRwo.out 0 (.string nm)) 1 (.slice A q.length c)) 2 (.slice Ar ri.length cr))
      simp only [List.setIfInBounds_toArray, List.set_cons_zero, List.set_cons_succ] at hk9
      have hkgX := (blk_far (blk_far (blk_far HgXwo.out (p := ⟨gR, 0, none⟩) (fun e => HDgRgX.out e.symm) (.string nm)) (p := ⟨gR, 1, none⟩) (fun e => HDgRgX.out e.symm) (.slice A q.length c)) (p := ⟨gR, 2, none⟩) (fun e => HDgRgX.out e.symm) (.slice Ar ri.length cr))
      have hrF := (row_far (row_far (row_far HFwo.out HgRwo.out (by decide) 0 (.string nm)) (blk_set HgRwo.out 0 (.string nm)) (by decide) 1 (.slice A q.length c)) (blk_set (blk_set HgRwo.out 0 (.string nm)) 1 (.slice A q.length c)) (by decide) 2 (.slice Ar ri.length cr))
      have hrN := (row_far (row_far (row_far HNwo.out HgRwo.out (by decide) 0 (.string nm)) (blk_set HgRwo.out 0 (.string nm)) (by decide) 1 (.slice A q.length c)) (blk_set (blk_set HgRwo.out 0 (.string nm)) 1 (.slice A q.length c)) (by decide) 2 (.slice Ar ri.length cr))
      obtain ⟨w5, hw9⟩ : ∃ x, (((wo.setCell ⟨gR, 0, none⟩ (.string nm)).setCell ⟨gR, 1, none⟩ (.slice A q.length c)).setCell ⟨gR, 2, none⟩ (.slice Ar ri.length cr)) = x := ⟨_, rfl⟩
      rw [hw9] at hps hb9 hk9 hkgX hrF hrN ⊢
      have HPw5 := Aside0.mk hps
      have HBw5 := Aside0.mk hb9
      have HgRw5 := Aside0.mk hk9
      have HgXw5 := Aside0.mk hkgX
      have HFw5 := Aside0.mk hrF
      have HNw5 := Aside0.mk hrN
      clear hw9 hps hb9 hk9 hkgX hrF hrN zgR0 zgR1 zgR2 hfzgR HPwo HBwo HgRwo HgXwo HFwo HNwo
      clear zgX0 zgX1 zgX2
      have zgR0 : w5.cell? ⟨gR, 0, none⟩ = some (.string nm) := blk_cell HgRw5.out 0
      have zgR1 : w5.cell? ⟨gR, 1, none⟩ = some (.slice A q.length c) := blk_cell HgRw5.out 1
      have zgR2 : w5.cell? ⟨gR, 2, none⟩ = some (.slice Ar ri.length cr) := blk_cell HgRw5.out 2
      refine bodyPost_ret (v := .agg #[.string nm, .slice A q.length c, .slice Ar ri.length cr]) ?_ rfl ?_
      · rw [results_cell rfl]
        go_simp
        first | rfl | done
      · exact ⟨_, _, by rw [HFV.out], ⟨by rw [HFV.out]; simp only [HFQ.out]; exact HFw5.out⟩, ⟨by rw [HFV.out]; simp only [HRQ.out]; exact HNw5.out⟩, ⟨by rw [HFM.out]; exact HPw5.out⟩, HBw5⟩
    | false =>
      rw [hb] at c1
      cases ht : takesB c_close s with
      | true =>
        have HT := Aside0.mk ht
        have hE2 := HE.out
        rw [msgA_close f r s ht, takesM, if_pos ht] at hE2
        obtain ⟨rfl, hE3⟩ := Prod.mk.inj hE2
        obtain ⟨rfl, hS6⟩ := Prod.mk.inj hE3
        have HS6 := Aside0.mk hS6
        clear hE2 hE3 hb ht hS6
        go_wp2_with fail
        refine (takes_yes w0 wo p s HPwo c_close HT S6 HS6).mono ?_
        rintro e w6 ⟨rfl, HPw6, hb9⟩
        have HBw6 := Aside0.mk (HBwo.out.trans hb9.out)
        have HgRw6 := Aside0.mk (grown_block hb9.out HgRwo.out HNgR.out)
        have HgXw6 := Aside0.mk (grown_block hb9.out HgXwo.out HNgX.out)
        have HFw6 := Aside0.mk (row_call HFwo.out HPwo.out (by decide) hb9.out)
        have HNw6 := Aside0.mk (row_call HNwo.out HPwo.out (by decide) hb9.out)
        clear hb9 HPwo HBwo HgRwo HgXwo HFwo HNwo
        have zgX0 : w6.cell? ⟨gX, 0, none⟩ = some (.string nm) := blk_cell HgXw6.out 0
        have zgX1 : w6.cell? ⟨gX, 1, none⟩ = some (.slice A q.length c) := blk_cell HgXw6.out 1
        have zgX2 : w6.cell? ⟨gX, 2, none⟩ = some (.slice Ar ri.length cr) := blk_cell HgXw6.out 2
        have zgR0 : w6.cell? ⟨gR, 0, none⟩ = some (.string ⟨#[]⟩) := blk_cell HgRw6.out 0
        have zgR1 : w6.cell? ⟨gR, 1, none⟩ = some (.slice none 0 0) := blk_cell HgRw6.out 1
        have zgR2 : w6.cell? ⟨gR, 2, none⟩ = some (.slice none 0 0) := blk_cell HgRw6.out 2
        have hfzgR := fun i => blk_frozen HgRw6.out i
        go_wp2_with fail
        change bodyPost _ _ _ _ _ (((w6.setCell ⟨gR, 0, none⟩ (.string nm)).setCell ⟨gR, 1, none⟩ (.slice A q.length c)).setCell ⟨gR, 2, none⟩ (.slice Ar ri.length cr))
        have hps := (((HPw6.out.far HNgR.out HWgR.out 0 (.string nm)).far HNgR.out HWgR.out 1 (.slice A q.length c)).far HNgR.out HWgR.out 2 (.slice Ar ri.length cr))
        have hb9 := (grown_far (grown_far (grown_far HBw6.out HLgR.out 0 (.string nm)) HLgR.out 1 (.slice A q.length c)) HLgR.out 2 (.slice Ar ri.length cr))
        have hk9 := (blk_set (blk_set (blk_set HgRw6.out 0 (.string nm)) 1 (.slice A q.length c)) 2 (.slice Ar ri.length cr))
        simp only [List.setIfInBounds_toArray, List.set_cons_zero, List.set_cons_succ] at hk9
        have hkgX := (blk_far (blk_far (blk_far HgXw6.out (p := ⟨gR, 0, none⟩) (fun e => HDgRgX.out e.symm) (.string nm)) (p := ⟨gR, 1, none⟩) (fun e => HDgRgX.out e.symm) (.slice A q.length c)) (p := ⟨gR, 2, none⟩) (fun e => HDgRgX.out e.symm) (.slice Ar ri.length cr))
        have hrF := (row_far (row_far (row_far HFw6.out HgRw6.out (by decide) 0 (.string nm)) (blk_set HgRw6.out 0 (.string nm)) (by decide) 1 (.slice A q.length c)) (blk_set (blk_set HgRw6.out 0 (.string nm)) 1 (.slice A q.length c)) (by decide) 2 (.slice Ar ri.length cr))
        have hrN := (row_far (row_far (row_far HNw6.out HgRw6.out (by decide) 0 (.string nm)) (blk_set HgRw6.out 0 (.string nm)) (by decide) 1 (.slice A q.length c)) (blk_set (blk_set HgRw6.out 0 (.string nm)) 1 (.slice A q.length c)) (by decide) 2 (.slice Ar ri.length cr))
        obtain ⟨w7, hw9⟩ : ∃ x, (((w6.setCell ⟨gR, 0, none⟩ (.string nm)).setCell ⟨gR, 1, none⟩ (.slice A q.length c)).setCell ⟨gR, 2, none⟩ (.slice Ar ri.length cr)) = x := ⟨_, rfl⟩
        rw [hw9] at hps hb9 hk9 hkgX hrF hrN ⊢
        have HPw7 := Aside0.mk hps
        have HBw7 := Aside0.mk hb9
        have HgRw7 := Aside0.mk hk9
        have HgXw7 := Aside0.mk hkgX
        have HFw7 := Aside0.mk hrF
        have HNw7 := Aside0.mk hrN
        clear hw9 hps hb9 hk9 hkgX hrF hrN zgR0 zgR1 zgR2 hfzgR HPw6 HBw6 HgRw6 HgXw6 HFw6 HNw6
        clear zgX0 zgX1 zgX2
        have zgR0 : w7.cell? ⟨gR, 0, none⟩ = some (.string nm) := blk_cell HgRw7.out 0
        have zgR1 : w7.cell? ⟨gR, 1, none⟩ = some (.slice A q.length c) := blk_cell HgRw7.out 1
        have zgR2 : w7.cell? ⟨gR, 2, none⟩ = some (.slice Ar ri.length cr) := blk_cell HgRw7.out 2
        refine bodyPost_ret (v := .agg #[.string nm, .slice A q.length c, .slice Ar ri.length cr]) ?_ rfl ?_
        · rw [results_cell rfl]
          go_simp
          first | rfl | done
        · exact ⟨_, _, by rw [HFV.out], ⟨by rw [HFV.out]; simp only [HFQ.out]; exact HFw7.out⟩, ⟨by rw [HFV.out]; simp only [HRQ.out]; exact HNw7.out⟩, ⟨by rw [HFM.out]; exact HPw7.out⟩, HBw7⟩
      | false =>
        have HT := Aside0.mk ht
        cases hre : takesB w_reserved s with
        | true =>
          have HRE := Aside0.mk hre
          have hm1 := mu_takes hre
          have hm2 := mu_num (takesM w_reserved s)
          have hm3 := mu_msg_res r hre
          have HE2 : Aside0 (msgA f (resA (r ++ [numV (takesM w_reserved s)]) (numM (takesM w_reserved s))).1 (need c_semi (resA (r ++ [numV (takesM w_reserved s)]) (numM (takesM w_reserved s))).2) = (FF, RR, S6)) := ⟨by rw [← msgA_res f r s ht hre]; exact HE.out⟩
          obtain ⟨t1, ht1⟩ : ∃ x, takesM w_reserved s = x := ⟨_, rfl⟩
          obtain ⟨t2, ht2⟩ : ∃ x, numM t1 = x := ⟨_, rfl⟩
          obtain ⟨k, hk⟩ : ∃ x, numV t1 = x := ⟨_, rfl⟩
          rw [ht1] at hm1 hm2 hm3 HE2
          rw [ht2] at hm2 hm3 HE2
          rw [hk] at hm3 HE2
          obtain ⟨R2, T2, hres⟩ : ∃ a b, resA (r ++ [k]) t2 = (a, b) := ⟨_, _, rfl⟩
          rw [hres] at hm3 HE2
          obtain ⟨t9, ht9⟩ : ∃ x, need c_semi T2 = x := ⟨_, rfl⟩
          rw [ht9] at hm3
          have hm4 := mu_res _ (r ++ [k]) t2 (Nat.le_refl _)
          rw [hres] at hm4
          have hm5 := mu_need c_semi T2
          rw [ht9] at hm5
          have HT1 : Aside0 ((s.1.tail, s.2) = t1) := ⟨by rw [← ht1, takesM, if_pos hre]⟩
          have HE3 : Aside0 (msgA f R2 t9 = (FF, RR, S6)) := ⟨by rw [← ht9]; exact HE2.out⟩
          have hq9 : q.length + mu t9 ≤ 20001 := by omega
          have HQ9 := Aside0.mk hq9
          have hr8 : ri.length + 1 + mu t2 ≤ 20001 := by omega
          have hr7 : ri.length ≤ 20001 := by omega
          have HM9 : Aside0 (mu t9 < mu s) := ⟨hm3⟩
          have At2 := Aside0.mk ht2
          have Ak := Aside0.mk hk
          have At9 := Aside0.mk ht9
          have HRES := Aside0.mk hres
          have HM5 := Aside0.mk hm5
          clear hm1 hm2 hm3 hm4 hm5 ht1 ht2 hk hres ht9 hre ht hb HE HE2 hq9
          go_wp2_with fail
          refine (takes_no w0 wo p s HPwo c_close HT).mono ?_
          rintro e w' ⟨rfl, rfl⟩
          clear c1
          go_wp2_with fail
          refine (takes_yes w0 wo p s HPwo w_reserved HRE t1 HT1).mono ?_
          rintro e w8 ⟨rfl, HPw8, hb9⟩
          have HBw8 := Aside0.mk (HBwo.out.trans hb9.out)
          have HgRw8 := Aside0.mk (grown_block hb9.out HgRwo.out HNgR.out)
          have HgXw8 := Aside0.mk (grown_block hb9.out HgXwo.out HNgX.out)
          have HFw8 := Aside0.mk (row_call HFwo.out HPwo.out (by decide) hb9.out)
          have HNw8 := Aside0.mk (row_call HNwo.out HPwo.out (by decide) hb9.out)
          clear hb9 HPwo HBwo HgRwo HgXwo HFwo HNwo
          go_upto_region 5 with fail
          have HPd := Aside0.mk (HPw8.out.below (Below.refl w8.heap.size w8).drew)
          have HBd := Aside0.mk (HBw8.out.trans (below_grownBy (Below.refl w8.heap.size w8).drew (some p)))
          have HFd := Aside0.mk (Kd.R_below HFw8.out (Below.refl w8.heap.size w8).drew)
          have HNd := Aside0.mk (Kd.R_below HNw8.out (Below.refl w8.heap.size w8).drew)
          have kd9 : w8.drew.cell? ⟨gX, 2, none⟩ = some (.slice Ar ri.length cr) := blk_cell HgXw8.out 2
          go_cut [] (fun wd => ∃ A9 c9, Aside0 (PS w0 wd p t2) ∧ Aside0 (w.grownBy wd (some p)) ∧ Aside0 (wd.heap[gR]? = some (.cells #[.string ⟨#[]⟩, .slice none 0 0, .slice none 0 0] 45 (0, 0))) ∧ Aside0 (wd.heap[gX]? = some (.cells #[.string nm, .slice A q.length c, .slice A9 (ri.length + 1) c9] 45 (0, 0))) ∧ Aside0 (k43.R 43 wd w.heap.size (fun _ => True) (.slice A q.length c) (q)) ∧ Aside0 ((Kd.int .i64).R 3 wd w.heap.size (fun _ => True) (.slice A9 (ri.length + 1) c9) ((ri ++ [(k : Int)]))))
          case first =>
            go_region_law
              (first
                | (go_simp; go_at_call 54; refine (pnumber_any w0 _ p t1 HPd k Ak t2 At2).mono ?_; rintro e w2 ⟨rfl, hp2, hb2⟩; have HP2 := hp2; have HB2 := Aside0.mk (HBd.out.trans hb2.out); have HgR2 := Aside0.mk (grown_block hb2.out (show w8.drew.heap[gR]? = _ from HgRw8.out) HNgR.out); have HgX2 := Aside0.mk (grown_block hb2.out (show w8.drew.heap[gX]? = _ from HgXw8.out) HNgX.out); have HF2 := Aside0.mk (row_call HFd.out HPd.out (by decide) hb2.out); have HN2 := Aside0.mk (row_call HNd.out HPd.out (by decide) hb2.out); have k29 : w2.cell? ⟨gX, 2, none⟩ = some (.slice Ar ri.length cr) := blk_cell HgX2.out 2; clear hp2 hb2; have k2A : (w2.alloc (.cells #[.int .i64 (k : Int)] 3)).cell? ⟨gX, 2, none⟩ = some (.slice Ar ri.length cr) := pw_cell_below ((Below.refl w2.heap.size w2).alloc (Nat.le_refl _) _) k29; go_simp)
                | (refine Kd.R_append_step (Kd.int .i64) (w0 := w2) (W := w2) w.heap.size rfl (.tmp 23) (.tmp 26) 35 3 (.int .i64 0) 8 rfl Tryd.underlying35 infoInt rfl (by decide) (by decide) (.slice Ar ri.length cr) (ri) ((k : Int)) [.int .i64 (k : Int)] (fun _ => True) (fun _ => False) rfl rfl rfl (fun _ h => h.elim) (fun _ _ => trivial) HN2.out (Below.refl _ _) HB2.out.size (by omega) ?_; intro v5 w5 hr5 hb5 hg5 hat5; obtain ⟨A9, c9, rfl⟩ := Kd.R_slice hr5; obtain ⟨hp9, hf9⟩ := app_frame HP2.out HB2.out H.out.bel.size HN2.out (by decide) hg5; have HP5 := Aside0.mk hp9; have HB5 := Aside0.mk hf9; have HgR5 := Aside0.mk (blk_grown HgR2.out hg5 (Kd.R_ne HN2.out HgR2.out (by decide))); have HgX5 := Aside0.mk (blk_grown HgX2.out hg5 (Kd.R_ne HN2.out HgX2.out (by decide))); have HF5 := Aside0.mk (row_other HF2.out HN2.out (by decide) hg5); have HN5 := Aside0.mk hr5; have k59 : w5.cell? ⟨gX, 2, none⟩ = some (.slice Ar ri.length cr) := blk_cell HgX5.out 2; have z59 := blk_frozen HgX5.out 2; clear hr5 hb5 hg5 hat5 hp9 hf9; go_simp))
            all_goals
              go_wp2_with fail
              go_meet
              case rel =>
                have hps := HP5.out.far HNgX.out HWgX.out 2 (.slice A9 (ri ++ [(k : Int)]).length c9)
                have hb9 := grown_far HB5.out HLgX.out 2 (.slice A9 (ri ++ [(k : Int)]).length c9)
                have hk9 := blk_set HgX5.out 2 (.slice A9 (ri ++ [(k : Int)]).length c9)
                simp only [List.setIfInBounds_toArray, List.set_cons_zero, List.set_cons_succ] at hk9
                have hkR := blk_far HgR5.out (p := ⟨gX, 2, none⟩) HDgRgX.out (.slice A9 (ri ++ [(k : Int)]).length c9)
                have hr9 := row_far HN5.out HgX5.out (by decide) 2 (.slice A9 (ri ++ [(k : Int)]).length c9)
                have ho9 := row_far HF5.out HgX5.out (by decide) 2 (.slice A9 (ri ++ [(k : Int)]).length c9)
                simp only [List.length_append, List.length_cons, List.length_nil, Nat.zero_add] at hk9 hr9 hps hb9 hkR ho9
                exact ⟨A9, c9, ⟨hps⟩, ⟨hb9⟩, ⟨hkR⟩, ⟨hk9⟩, ⟨ho9⟩, ⟨hr9⟩⟩
          case rest =>
            obtain ⟨w9, hw9⟩ : ∃ x, x = wc := ⟨_, rfl⟩
            subst hw9
            obtain ⟨A9, c9, HPw9, HBw9, HgRw9, HgXw9, HFw9, HNw9⟩ := hcut
            clear kd9 HPd HBd HFd HNd HPw8 HBw8 HgRw8 HgXw8 HFw8 HNw8
            go_wp2_with fail
            go_loopw [] (fun wx => ∃ (r2 : List Nat) (rj : List Int) (s9 : St) (Ax : Option Addr) (cx : Nat), Aside0 (nums_ r2 = rj) ∧ Aside0 (resA r2 s9 = (R2, T2)) ∧ rj.length + mu s9 ≤ 20001 ∧ Aside0 (PS w0 wx p s9) ∧ Aside0 (w.grownBy wx (some p)) ∧ Aside0 (wx.heap[gR]? = some (.cells #[.string ⟨#[]⟩, .slice none 0 0, .slice none 0 0] 45 (0, 0))) ∧ Aside0 (wx.heap[gX]? = some (.cells #[.string nm, .slice A q.length c, .slice Ax rj.length cx] 45 (0, 0))) ∧ Aside0 (k43.R 43 wx w.heap.size (fun _ => True) (.slice A q.length c) (q)) ∧ Aside0 ((Kd.int .i64).R 3 wx w.heap.size (fun _ => True) (.slice Ax rj.length cx) (rj))) (fun wx => muW wx p)
            case atStart => exact ⟨r ++ [k], ri ++ [(k : Int)], t2, A9, c9, ⟨by rw [← HRQ.out]; simp [nums_]⟩, HRES, by simpa using hr8, HPw9, HBw9, HgRw9, ⟨by rw [List.length_append]; exact HgXw9.out⟩, HFw9, ⟨by rw [List.length_append]; exact HNw9.out⟩⟩
            case round =>
              clear HPw9 HBw9 HgRw9 HgXw9 HFw9 HNw9 HRES
              obtain ⟨r2, rj, s9, Ax, cx, HRJ, HRS, hlj, HPwr, HBwr, HgRwr, HgXwr, HFwr, HNwr⟩ := hrel
              have HMX := Aside0.mk HPwr.out.mu
              cases hco : takesB c_comma s9 with
              | true =>
                have HCO := Aside0.mk hco
                have hm1 := mu_takes hco
                have hm2 := mu_num (takesM c_comma s9)
                have HRS2 := HRS.out
                rw [resA_step, if_pos hco] at HRS2
                obtain ⟨u1, hu1⟩ : ∃ x, takesM c_comma s9 = x := ⟨_, rfl⟩
                obtain ⟨u2, hu2⟩ : ∃ x, numM u1 = x := ⟨_, rfl⟩
                obtain ⟨k2, hk2⟩ : ∃ x, numV u1 = x := ⟨_, rfl⟩
                rw [hu1] at hm1 hm2 HRS2
                rw [hu2] at hm2 HRS2
                rw [hk2] at HRS2
                have HU1 : Aside0 ((s9.1.tail, s9.2) = u1) := ⟨by rw [← hu1, takesM, if_pos hco]⟩
                have hr9 : rj.length + 1 + mu u2 ≤ 20001 := by omega
                have HMU : Aside0 (mu u2 < mu s9) := ⟨by omega⟩
                have HRS3 := Aside0.mk HRS2
                have hr7 : rj.length ≤ 20001 := by omega
                have Au2 := Aside0.mk hu2
                have Ak2 := Aside0.mk hk2
                clear hm1 hm2 HRS2 hu1 hu2 hk2 hco HRS
                go_wp2_with fail
                refine (takes_yes w0 wr p s9 HPwr c_comma HCO u1 HU1).mono ?_
                rintro e w10 ⟨rfl, HPw10, hb9⟩
                have HBw10 := Aside0.mk (HBwr.out.trans hb9.out)
                have HgRw10 := Aside0.mk (grown_block hb9.out HgRwr.out HNgR.out)
                have HgXw10 := Aside0.mk (grown_block hb9.out HgXwr.out HNgX.out)
                have HFw10 := Aside0.mk (row_call HFwr.out HPwr.out (by decide) hb9.out)
                have HNw10 := Aside0.mk (row_call HNwr.out HPwr.out (by decide) hb9.out)
                clear hb9 HPwr HBwr HgRwr HgXwr HFwr HNwr
                go_upto_region 7 with fail
                have HPd := Aside0.mk (HPw10.out.below (Below.refl w10.heap.size w10).drew)
                have HBd := Aside0.mk (HBw10.out.trans (below_grownBy (Below.refl w10.heap.size w10).drew (some p)))
                have HFd := Aside0.mk (Kd.R_below HFw10.out (Below.refl w10.heap.size w10).drew)
                have HNd := Aside0.mk (Kd.R_below HNw10.out (Below.refl w10.heap.size w10).drew)
                have kd9 : w10.drew.cell? ⟨gX, 2, none⟩ = some (.slice Ax rj.length cx) := blk_cell HgXw10.out 2
                go_region_law
                  (first
                    | (go_simp; go_at_call 54; refine (pnumber_any w0 _ p u1 HPd k2 Ak2 u2 Au2).mono ?_; rintro e w2 ⟨rfl, hp2, hb2⟩; have HP2 := hp2; have HB2 := Aside0.mk (HBd.out.trans hb2.out); have HgR2 := Aside0.mk (grown_block hb2.out (show w10.drew.heap[gR]? = _ from HgRw10.out) HNgR.out); have HgX2 := Aside0.mk (grown_block hb2.out (show w10.drew.heap[gX]? = _ from HgXw10.out) HNgX.out); have HF2 := Aside0.mk (row_call HFd.out HPd.out (by decide) hb2.out); have HN2 := Aside0.mk (row_call HNd.out HPd.out (by decide) hb2.out); have k29 : w2.cell? ⟨gX, 2, none⟩ = some (.slice Ax rj.length cx) := blk_cell HgX2.out 2; clear hp2 hb2; have k2A : (w2.alloc (.cells #[.int .i64 (k2 : Int)] 3)).cell? ⟨gX, 2, none⟩ = some (.slice Ax rj.length cx) := pw_cell_below ((Below.refl w2.heap.size w2).alloc (Nat.le_refl _) _) k29; go_simp)
                    | (refine Kd.R_append_step (Kd.int .i64) (w0 := w2) (W := w2) w.heap.size rfl (.tmp 32) (.tmp 35) 35 3 (.int .i64 0) 8 rfl Tryd.underlying35 infoInt rfl (by decide) (by decide) (.slice Ax rj.length cx) (rj) ((k2 : Int)) [.int .i64 (k2 : Int)] (fun _ => True) (fun _ => False) rfl rfl rfl (fun _ h => h.elim) (fun _ _ => trivial) HN2.out (Below.refl _ _) HB2.out.size (by omega) ?_; intro v5 w5 hr5 hb5 hg5 hat5; obtain ⟨A9, c9, rfl⟩ := Kd.R_slice hr5; obtain ⟨hp9, hf9⟩ := app_frame HP2.out HB2.out H.out.bel.size HN2.out (by decide) hg5; have HP5 := Aside0.mk hp9; have HB5 := Aside0.mk hf9; have HgR5 := Aside0.mk (blk_grown HgR2.out hg5 (Kd.R_ne HN2.out HgR2.out (by decide))); have HgX5 := Aside0.mk (blk_grown HgX2.out hg5 (Kd.R_ne HN2.out HgX2.out (by decide))); have HF5 := Aside0.mk (row_other HF2.out HN2.out (by decide) hg5); have HN5 := Aside0.mk hr5; have k59 : w5.cell? ⟨gX, 2, none⟩ = some (.slice Ax rj.length cx) := blk_cell HgX5.out 2; have z59 := blk_frozen HgX5.out 2; clear hr5 hb5 hg5 hat5 hp9 hf9; go_simp))
                all_goals
                  go_wp2_with fail
                  have hps := HP5.out.far HNgX.out HWgX.out 2 (.slice A9 (rj ++ [(k2 : Int)]).length c9)
                  have hb9 := grown_far HB5.out HLgX.out 2 (.slice A9 (rj ++ [(k2 : Int)]).length c9)
                  have hk9 := blk_set HgX5.out 2 (.slice A9 (rj ++ [(k2 : Int)]).length c9)
                  simp only [List.setIfInBounds_toArray, List.set_cons_zero, List.set_cons_succ] at hk9
                  have hkR := blk_far HgR5.out (p := ⟨gX, 2, none⟩) HDgRgX.out (.slice A9 (rj ++ [(k2 : Int)]).length c9)
                  have hr9 := row_far HN5.out HgX5.out (by decide) 2 (.slice A9 (rj ++ [(k2 : Int)]).length c9)
                  have ho9 := row_far HF5.out HgX5.out (by decide) 2 (.slice A9 (rj ++ [(k2 : Int)]).length c9)
                  simp only [List.length_append, List.length_cons, List.length_nil, Nat.zero_add] at hk9 hr9 hps hb9 hkR ho9
                  have HP9 := Aside0.mk hps
                  have HB9 := Aside0.mk hb9
                  have HgR9 := Aside0.mk hkR
                  have HgX9 := Aside0.mk hk9
                  have HN9 := Aside0.mk hr9
                  have HF9 := Aside0.mk ho9
                  have HMY := Aside0.mk hps.mu
                  clear hps hb9 hkR hk9 hr9 ho9
                  go_roundw
                  case rel => exact ⟨r2 ++ [k2], rj ++ [(k2 : Int)], u2, A9, c9, ⟨by rw [← HRJ.out]; simp [nums_]⟩, HRS3, by simpa using hr9, HP9, HB9, HgR9, ⟨by rw [List.length_append]; exact HgX9.out⟩, HF9, ⟨by rw [List.length_append]; exact HN9.out⟩⟩
                  case measure => rw [HMY.out, HMX.out]; exact HMU.out
              | false =>
                have HCO := Aside0.mk hco
                have HRS2 := HRS.out
                rw [resA_step, if_neg (by rw [hco]; decide)] at HRS2
                obtain ⟨rfl, rfl⟩ := Prod.mk.inj HRS2
                have hr9 : rj.length + mu t9 ≤ 20001 := by have := HM5.out; omega
                have HR9 := Aside0.mk hr9
                clear HRS2 hco HRS hr9
                go_wp2_with fail
                refine (takes_no w0 wr p s9 HPwr c_comma HCO).mono ?_
                rintro e w' ⟨rfl, rfl⟩
                go_wp2_with fail
                refine (needs_lit w0 wr p s9 HPwr [c_semi] (by decide) t9 ⟨At9.out⟩ _ rfl 1 rfl).mono ?_
                rintro e w11 ⟨rfl, HPw11, hb9⟩
                have HBw11 := Aside0.mk (HBwr.out.trans hb9.out)
                have HgRw11 := Aside0.mk (grown_block hb9.out HgRwr.out HNgR.out)
                have HgXw11 := Aside0.mk (grown_block hb9.out HgXwr.out HNgX.out)
                have HFw11 := Aside0.mk (row_call HFwr.out HPwr.out (by decide) hb9.out)
                have HNw11 := Aside0.mk (row_call HNwr.out HPwr.out (by decide) hb9.out)
                clear hb9 HPwr HBwr HgRwr HgXwr HFwr HNwr
                have HMY := Aside0.mk HPw11.out.mu
                go_wp2_with fail
                go_roundw
                case rel => exact ⟨f, q, r2, rj, t9, A, c, Ax, cx, HFQ, HRJ, HE3, HQ9.out, HR9.out, HPw11, HBw11, HgRw11, HgXw11, HFw11, HNw11⟩
                case measure => rw [HMY.out, HM.out]; exact HM9.out
        | false =>
          have HRE := Aside0.mk hre
          have hm1 := mu_msg_field hb
          have HE2 : Aside0 (msgA (f ++ [fieldV s]) r (fieldM s) = (FF, RR, S6)) := ⟨by rw [← msgA_field f r s hb ht hre]; exact HE.out⟩
          obtain ⟨fd, hfd⟩ : ∃ x, fieldV s = x := ⟨_, rfl⟩
          obtain ⟨t9, ht9⟩ : ∃ x, fieldM s = x := ⟨_, rfl⟩
          rw [hfd, ht9] at HE2
          rw [ht9] at hm1
          have hq9 : q.length + 1 + mu t9 ≤ 20001 := by omega
          have hr9 : ri.length + mu t9 ≤ 20001 := by omega
          have hq7 : q.length ≤ 20001 := by omega
          have HM9 := Aside0.mk hm1
          have HQ9 := Aside0.mk hq9
          have HR9 := Aside0.mk hr9
          have Afd := Aside0.mk hfd
          have At9 := Aside0.mk ht9
          clear hm1 hq9 hr9 hfd ht9 hre ht hb HE
          go_wp2_with fail
          refine (takes_no w0 wo p s HPwo c_close HT).mono ?_
          rintro e w' ⟨rfl, rfl⟩
          clear c1
          go_wp2_with fail
          refine (takes_no w0 wo p s HPwo w_reserved HRE).mono ?_
          rintro e w' ⟨rfl, rfl⟩
          go_upto_region 9 with fail
          have HPd := Aside0.mk (HPwo.out.below (Below.refl wo.heap.size wo).drew)
          have HBd := Aside0.mk (HBwo.out.trans (below_grownBy (Below.refl wo.heap.size wo).drew (some p)))
          have HFd := Aside0.mk (Kd.R_below HFwo.out (Below.refl wo.heap.size wo).drew)
          have HNd := Aside0.mk (Kd.R_below HNwo.out (Below.refl wo.heap.size wo).drew)
          have kd9 : wo.drew.cell? ⟨gX, 1, none⟩ = some (.slice A q.length c) := blk_cell HgXwo.out 1
          go_region_law
            (first
              | (go_simp; go_at_call 55; refine (field_any2 w0 _ p s HPd fd Afd t9 At9).mono ?_; rintro e w2 ⟨rfl, hp2, hb2⟩; have HP2 := hp2; have HB2 := Aside0.mk (HBd.out.trans hb2.out); have HgR2 := Aside0.mk (grown_block hb2.out (show wo.drew.heap[gR]? = _ from HgRwo.out) HNgR.out); have HgX2 := Aside0.mk (grown_block hb2.out (show wo.drew.heap[gX]? = _ from HgXwo.out) HNgX.out); have HF2 := Aside0.mk (row_call HFd.out HPd.out (by decide) hb2.out); have HN2 := Aside0.mk (row_call HNd.out HPd.out (by decide) hb2.out); have k29 : w2.cell? ⟨gX, 1, none⟩ = some (.slice A q.length c) := blk_cell HgX2.out 1; clear hp2 hb2; have k2A : (w2.alloc (.cells #[.string fd.name, .int .i64 (fd.tag : Int), .int .i64 (fd.label : Int), .int .i64 (kk7 fd.kind : Int), .string fd.tname] 43)).cell? ⟨gX, 1, none⟩ = some (.slice A q.length c) := pw_cell_below ((Below.refl w2.heap.size w2).alloc (Nat.le_refl _) _) k29; go_simp)
              | (refine Kd.R_append_step k43 (w0 := w2) (W := w2) w.heap.size rfl (.tmp 42) (.tmp 45) 38 43 (.agg #[.string ⟨#[]⟩, .int .i64 0, .int .i64 0, .int .i64 0, .string ⟨#[]⟩]) 56 rfl Tryd.underlying38 infoField rfl (by decide) (by decide) (.slice A q.length c) (q) (fS fd) [.string fd.name, .int .i64 (fd.tag : Int), .int .i64 (fd.label : Int), .int .i64 (kk7 fd.kind : Int), .string fd.tname] (fun _ => True) (fun _ => False) rfl rfl (k43_mkM _ _ _ (fS fd)) (fun _ h => h.elim) (fun _ _ => trivial) HF2.out (Below.refl _ _) HB2.out.size (by omega) ?_; intro v5 w5 hr5 hb5 hg5 hat5; obtain ⟨A9, c9, rfl⟩ := Kd.R_slice hr5; obtain ⟨hp9, hf9⟩ := app_frame HP2.out HB2.out H.out.bel.size HF2.out (by decide) hg5; have HP5 := Aside0.mk hp9; have HB5 := Aside0.mk hf9; have HgR5 := Aside0.mk (blk_grown HgR2.out hg5 (Kd.R_ne HF2.out HgR2.out (by decide))); have HgX5 := Aside0.mk (blk_grown HgX2.out hg5 (Kd.R_ne HF2.out HgX2.out (by decide))); have HN5 := Aside0.mk (row_other HN2.out HF2.out (by decide) hg5); have HF5 := Aside0.mk hr5; have k59 : w5.cell? ⟨gX, 1, none⟩ = some (.slice A q.length c) := blk_cell HgX5.out 1; have z59 := blk_frozen HgX5.out 1; clear hr5 hb5 hg5 hat5 hp9 hf9; go_simp))
          all_goals
            go_wp2_with fail
            have hps := HP5.out.far HNgX.out HWgX.out 1 (.slice A9 (q ++ [fS fd]).length c9)
            have hb9 := grown_far HB5.out HLgX.out 1 (.slice A9 (q ++ [fS fd]).length c9)
            have hk9 := blk_set HgX5.out 1 (.slice A9 (q ++ [fS fd]).length c9)
            simp only [List.setIfInBounds_toArray, List.set_cons_zero, List.set_cons_succ] at hk9
            have hkR := blk_far HgR5.out (p := ⟨gX, 1, none⟩) HDgRgX.out (.slice A9 (q ++ [fS fd]).length c9)
            have hr9 := row_far HF5.out HgX5.out (by decide) 1 (.slice A9 (q ++ [fS fd]).length c9)
            have ho9 := row_far HN5.out HgX5.out (by decide) 1 (.slice A9 (q ++ [fS fd]).length c9)
            simp only [List.length_append, List.length_cons, List.length_nil, Nat.zero_add] at hk9 hr9 hps hb9 hkR ho9
            have HP9 := Aside0.mk hps
            have HB9 := Aside0.mk hb9
            have HgR9 := Aside0.mk hkR
            have HgX9 := Aside0.mk hk9
            have HF9 := Aside0.mk hr9
            have HN9 := Aside0.mk ho9
            have HMY := Aside0.mk hps.mu
            clear hps hb9 hkR hk9 hr9 ho9
            go_roundw
            case rel => exact ⟨f ++ [fd], q ++ [fS fd], r, ri, t9, A9, c9, Ar, cr, ⟨by rw [← HFQ.out]; simp⟩, HRQ, HE2, by simpa using HQ9.out, HR9.out, HP9, HB9, HgR9, ⟨by rw [List.length_append]; exact HgX9.out⟩, ⟨by rw [List.length_append]; exact HF9.out⟩, HN9⟩
            case measure => rw [HMY.out, HM.out]; exact HM9.out
end Go.Proofs.YtbfhglaaombglaaDoor

/- The parser: schema. -/
namespace Go.Proofs.YtbfhglaaombglaaDoor
set_option linter.unusedVariables false
set_option linter.unusedSimpArgs false
open Go.RowKit Go.Proofs.YtbfhglaaombglaaDoorW.PrintWords Go.Proofs.YtbfhglaaombglaaDoor.PIdlParses

theorem Kd.M_lower_ {α : Type} {d : Kd α} {w : World} {base base' : Nat} {ok : Nat → Prop} {x : α} {cs : List Value} (h : d.M w base ok x cs) (hb : base' ≤ base) : d.M w base' ok x cs := d.M_lower hb h
/-- A message and where its rows lie. -/
def kI : Kd (S45 × Nat × Nat) where
  sz := k45.sz
  E := k45.E
  K := fun w x cs => k45.K w x.1 cs
  M := fun w base ok x cs => k45.M w base (fun k => ok k ∧ x.2.1 ≤ k ∧ k < x.2.2) x.1 cs
  K_len := fun h => k45.K_len h
  K_one := fun h => k45.K_one h
  K_below := fun hb h => k45.K_below hb h
  K_of_M := fun h => k45.K_of_M h
  M_mono := fun hok h => k45.M_mono (fun k hk => ⟨hok k hk.1, hk.2⟩) h
  M_bound := fun h => k45.M_mono (fun k hk => ⟨⟨hk.1.1, hk.2⟩, hk.1.2⟩) (k45.M_bound h)
  M_move := fun hm h => k45.M_move (fun k hk => hm k hk.1) h
  M_lower := fun hb h => k45.M_lower hb h
theorem kI_mk {w : World} {base lo hi : Nat} {x : S45} {cs : List Value} (h : k45.M w base (fun k => lo ≤ k ∧ k < hi) x cs) : kI.M w base (fun k => lo ≤ k) (x, lo, hi) cs :=
  k45.M_mono (fun k hk => ⟨hk.1, hk.1, hk.2⟩) h
/-- What has been read of a schema. -/
structure ScRel (x : Sc) (nm : ByteArray) (xm : List (S45 × Nat × Nat)) (xe : List S68) (xt : List S72) (n : Nat) : Prop where
  nam : x.name = nm
  ms : xm.map (·.1) = x.msgs.map gS
  es : xe = x.enums.map eS
  ts : xt = x.meths.map mS
  ap : xm.Pairwise (fun a b => a.2.2 ≤ b.2.1)
  le : ∀ a ∈ xm, a.2.2 ≤ n
theorem ScRel.more {x : Sc} {nm : ByteArray} {xm : List (S45 × Nat × Nat)} {xe : List S68} {xt : List S72} {n n' : Nat} (h : ScRel x nm xm xe xt n) (hn : n ≤ n') : ScRel x nm xm xe xt n' :=
  ⟨h.nam, h.ms, h.es, h.ts, h.ap, fun a ha => Nat.le_trans (h.le a ha) hn⟩
theorem ScRel.addM {x : Sc} {nm : ByteArray} {xm : List (S45 × Nat × Nat)} {xe : List S68} {xt : List S72} {n n' : Nat} (h : ScRel x nm xm xe xt n) (m : Mg) (lo hi : Nat) (h1 : n ≤ lo) (h2 : hi ≤ n') (h3 : n ≤ n') :
    ScRel { x with msgs := x.msgs ++ [m] } nm (xm ++ [(gS m, lo, hi)]) xe xt n' :=
  ⟨h.nam, by rw [List.map_append, List.map_append, h.ms]; rfl, h.es, h.ts, List.pairwise_append.2 ⟨h.ap, List.pairwise_singleton _ _, fun a ha b hb => by rw [List.mem_singleton.1 hb]; exact Nat.le_trans (h.le a ha) h1⟩, fun a ha => by
    rcases List.mem_append.1 ha with ha | ha
    · exact Nat.le_trans (h.le a ha) h3
    · rw [List.mem_singleton.1 ha]; exact h2⟩
theorem ScRel.addE {x : Sc} {nm : ByteArray} {xm : List (S45 × Nat × Nat)} {xe : List S68} {xt : List S72} {n n' : Nat} (h : ScRel x nm xm xe xt n) (m : En) (h3 : n ≤ n') : ScRel { x with enums := x.enums ++ [m] } nm xm (xe ++ [eS m]) xt n' :=
  ⟨h.nam, h.ms, by rw [List.map_append, ← h.es]; rfl, h.ts, h.ap, fun a ha => Nat.le_trans (h.le a ha) h3⟩
theorem ScRel.addT {x : Sc} {nm : ByteArray} {xm : List (S45 × Nat × Nat)} {xe : List S68} {xt : List S72} {n n' : Nat} (h : ScRel x nm xm xe xt n) (m : Mt) (h3 : n ≤ n') : ScRel { x with meths := x.meths ++ [m] } nm xm xe (xt ++ [mS m]) n' :=
  ⟨h.nam, h.ms, h.es, by rw [List.map_append, ← h.ts]; rfl, h.ap, fun a ha => Nat.le_trans (h.le a ha) h3⟩
theorem message_any2 (w0 w : World) (p : Nat) (st : St) (H : Aside0 (PS w0 w p st)) (m : Mg) (hm : Aside0 (messV st = m)) (s2 : St) (hs : Aside0 (messM st = s2)) :
    Calls Tryd.prog 35 #[.pointer (some ⟨p, 0, none⟩)] w fun e w' => ∃ A1 n1 c1 A2 n2 c2, e = .returned (.agg #[.string m.name, .slice A1 n1 c1, .slice A2 n2 c2]) ∧ Aside0 (k45.M w' w.heap.size (fun k => w.heap.size ≤ k ∧ k < w'.heap.size) (gS m) [.string m.name, .slice A1 n1 c1, .slice A2 n2 c2]) ∧ Aside0 (PS w0 w' p s2) ∧ Aside0 (w.grownBy w' (some p)) := by
  refine (message_any w0 w p st H).mono ?_
  rintro e w' ⟨vF, vN, rfl, h1, h2, h3, h4⟩
  rw [hm.out] at h1 h2 ⊢
  rw [hs.out] at h3
  obtain ⟨A1, c1, rfl⟩ := Kd.R_slice h1.out
  obtain ⟨A2, c2, rfl⟩ := Kd.R_slice h2.out
  exact ⟨A1, _, c1, A2, _, c2, rfl, ⟨k45_mkM _ _ _ (gS m) (Kd.R_mono (Kd.R_bound h1.out) (fun k hk => ⟨hk.2.1, hk.2.2.1⟩)) (Kd.R_mono (Kd.R_bound h2.out) (fun k hk => ⟨hk.2.1, hk.2.2.1⟩))⟩, h3, h4⟩
theorem enum_any2 (w0 w : World) (p : Nat) (st : St) (H : Aside0 (PS w0 w p st)) (m : En) (hm : Aside0 (enumV st = m)) (s2 : St) (hs : Aside0 (enumM st = s2)) :
    Calls Tryd.prog 36 #[.pointer (some ⟨p, 0, none⟩)] w fun e w' => ∃ A1 n1 c1, e = .returned (.agg #[.string m.name, .slice A1 n1 c1]) ∧ Aside0 (k68.M w' w.heap.size (fun k => w.heap.size ≤ k) (eS m) [.string m.name, .slice A1 n1 c1]) ∧ Aside0 (PS w0 w' p s2) ∧ Aside0 (w.grownBy w' (some p)) := by
  refine (enum_any w0 w p st H).mono ?_
  rintro e w' ⟨vV, rfl, h1, h3, h4⟩
  rw [hm.out] at h1 ⊢
  rw [hs.out] at h3
  obtain ⟨A1, c1, rfl⟩ := Kd.R_slice h1.out
  exact ⟨A1, _, c1, rfl, ⟨k68_mkM _ _ _ (eS m) (Kd.R_mono (Kd.R_bound h1.out) (fun k hk => hk.2.1))⟩, h3, h4⟩
theorem call_any2 (w0 w : World) (p : Nat) (st : St) (H : Aside0 (PS w0 w p st)) (m : Mt) (hm : Aside0 (callV st = m)) (s2 : St) (hs : Aside0 (callM st = s2)) :
    Calls Tryd.prog 37 #[.pointer (some ⟨p, 0, none⟩)] w fun e w' => e = .returned (.agg #[.string m.name, .string m.inn, .string m.out]) ∧ Aside0 (PS w0 w' p s2) ∧ Aside0 (w.grownBy w' (some p)) := by
  have h := call_any w0 w p st H
  rw [hm.out, hs.out] at h
  exact h
/-- What is told of a schema's rows. -/
structure ScRows (x : Sc) (xm : List (S45 × Nat × Nat)) (xe : List S68) (xt : List S72) : Prop where
  ms : xm.map (·.1) = x.msgs.map gS
  es : xe = x.enums.map eS
  ts : xt = x.meths.map mS
  ap : xm.Pairwise (fun a b => a.2.2 ≤ b.2.1)
set_option maxRecDepth 100000 in
set_option maxHeartbeats 8000000 in
theorem schema_any (w0 w : World) (p : Nat) (st : St) (H : Aside0 (PS w0 w p st)) (X : Sc) (S6 : St) (hX : Aside0 (schemaS st = (X, S6))) :
    Calls Tryd.prog 16 #[.pointer (some ⟨p, 0, none⟩)] w fun e w' => ∃ Am cm Ae ce At ct xm xe xt, e = .returned (.agg #[.string X.name, .slice Am (List.length xm) cm, .slice Ae (List.length xe) ce, .slice At (List.length xt) ct]) ∧ Aside0 (ScRows X xm xe xt) ∧ Aside0 (kI.R 45 w' w.heap.size (fun _ => True) (.slice Am (List.length xm) cm) xm) ∧ Aside0 (k68.R 68 w' w.heap.size (fun _ => True) (.slice Ae (List.length xe) ce) xe) ∧ Aside0 (k72.R 72 w' w.heap.size (fun _ => True) (.slice At (List.length xt) ct) xt) ∧ Aside0 (PS w0 w' p S6) ∧ Aside0 (w.grownBy w' (some p)) := by
  have hmu0 : mu (need c_semi (nameM (need w_schema st))) ≤ 20001 := by
    have h0 := mu_need w_schema st
    have h1 := mu_name (need w_schema st)
    have h2 := mu_need c_semi (nameM (need w_schema st))
    have h3 : mu st ≤ 20001 := by have := H.out.len; unfold mu; split <;> omega
    omega
  obtain ⟨s0, hs0⟩ : ∃ s, need w_schema st = s := ⟨_, rfl⟩
  obtain ⟨s1, hs1⟩ : ∃ s, nameM s0 = s := ⟨_, rfl⟩
  obtain ⟨s2, hs2⟩ : ∃ s, need c_semi s1 = s := ⟨_, rfl⟩
  obtain ⟨nm, hnm⟩ : ∃ x, nameV s0 = x := ⟨_, rfl⟩
  rw [hs0, hs1, hs2] at hmu0
  have HE0 : Aside0 (declA ⟨nm, [], [], []⟩ s2 = (X, S6)) := ⟨by rw [← hX.out, schemaS, hs0, hs1, hs2, hnm]⟩
  have As0 := Aside0.mk hs0
  have As1 := Aside0.mk hs1
  have As2 := Aside0.mk hs2
  have Anm := Aside0.mk hnm
  clear hs0 hs1 hs2 hnm hX
  have HLT := Aside0.mk H.out.lt
  go_enter Tryd.func16, Tryd.ntmps16
  go_upto_region 1 with fail
  change Code.wp _ _ _ _ (w.alloc (.cells #[.string ⟨#[]⟩, .slice none 0 0, .slice none 0 0, .slice none 0 0] 27))
  have hbel : Below w.heap.size w (w.alloc (.cells #[.string ⟨#[]⟩, .slice none 0 0, .slice none 0 0, .slice none 0 0] 27)) := ((Below.refl w.heap.size w).alloc (Nat.le_refl _) _)
  have hgR : (w.alloc (.cells #[.string ⟨#[]⟩, .slice none 0 0, .slice none 0 0, .slice none 0 0] 27)).heap[w.heap.size]? = some (.cells #[.string ⟨#[]⟩, .slice none 0 0, .slice none 0 0, .slice none 0 0] 27 (0, 0)) := by
    have h9 := heap_alloc_new w (.cells #[.string ⟨#[]⟩, .slice none 0 0, .slice none 0 0, .slice none 0 0] 27)
    exact h9
  obtain ⟨gR, hggR⟩ : ∃ g, w.heap.size = g := ⟨_, rfl⟩
  have hps := H.out.below hbel
  obtain ⟨w1, hw9⟩ : ∃ x, (w.alloc (.cells #[.string ⟨#[]⟩, .slice none 0 0, .slice none 0 0, .slice none 0 0] 27)) = x := ⟨_, rfl⟩
  rw [hggR, hw9] at hgR
  rw [hw9] at hps hbel ⊢
  have HPw1 := Aside0.mk hps
  have HBw1 := Aside0.mk (below_grownBy hbel (some p))
  have HgRw1 := Aside0.mk hgR
  have HLgR : Aside0 (w.heap.size ≤ gR) := ⟨by omega⟩
  have HNgR : Aside0 (gR ≠ p) := ⟨by have := HLT.out; omega⟩
  have HWgR : Aside0 (w0.heap.size ≤ gR) := ⟨Nat.le_trans H.out.bel.size HLgR.out⟩
  simp only [hggR]
  clear hw9 hps hbel hggR hgR
  go_wp2_with fail
  refine (needs_lit w0 w1 p st HPw1 [w_schema] (by decide) s0 ⟨As0.out⟩ _ rfl 1 rfl).mono ?_
  rintro e w2 ⟨rfl, HPw2, hb9⟩
  have HBw2 := Aside0.mk (HBw1.out.trans hb9.out)
  have HgRw2 := Aside0.mk (grown_block hb9.out HgRw1.out HNgR.out)
  clear hb9 HPw1 HBw1 HgRw1
  go_wp2_with fail
  refine (pname_any w0 w2 p s0 HPw2 nm Anm s1 As1).mono ?_
  rintro e w3 ⟨rfl, HPw3, hb9⟩
  have HBw3 := Aside0.mk (HBw2.out.trans hb9.out)
  have HgRw3 := Aside0.mk (grown_block hb9.out HgRw2.out HNgR.out)
  clear hb9 HPw2 HBw2 HgRw2
  go_upto_region 3 with fail
  change Code.wp _ _ _ _ (w3.alloc (.cells #[.string nm, .slice none 0 0, .slice none 0 0, .slice none 0 0] 27))
  have hbel : Below w3.heap.size w3 (w3.alloc (.cells #[.string nm, .slice none 0 0, .slice none 0 0, .slice none 0 0] 27)) := (Below.refl _ _).alloc (Nat.le_refl _) _
  have hk9 := heap_alloc_new w3 (.cells #[.string nm, .slice none 0 0, .slice none 0 0, .slice none 0 0] 27)
  have hps := HPw3.out.below hbel
  have hb9 := HBw3.out.trans (below_grownBy hbel (some p))
  have hkgR := (hbel.block _ (blk_lt HgRw3.out)).trans HgRw3.out
  obtain ⟨gX, hggX⟩ : ∃ g, w3.heap.size = g := ⟨_, rfl⟩
  have HLgX : Aside0 (w.heap.size ≤ gX) := ⟨by rw [← hggX]; exact HBw3.out.size⟩
  have HNgX : Aside0 (gX ≠ p) := ⟨by rw [← hggX]; exact fun e => by have := HPw3.out.lt; omega⟩
  have HWgX : Aside0 (w0.heap.size ≤ gX) := ⟨by rw [← hggX]; exact HPw3.out.bel.size⟩
  have HDgRgX : Aside0 (gR ≠ gX) := ⟨by rw [← hggX]; exact fun e => by have := blk_lt HgRw3.out; omega⟩
  obtain ⟨w4, hw9⟩ : ∃ x, w3.alloc (.cells #[.string nm, .slice none 0 0, .slice none 0 0, .slice none 0 0] 27) = x := ⟨_, rfl⟩
  rw [hggX] at hk9
  rw [hw9] at hps hb9 hk9 hkgR ⊢
  have HPw4 := Aside0.mk hps
  have HBw4 := Aside0.mk hb9
  have HgXw4 := Aside0.mk hk9
  have HgRw4 := Aside0.mk hkgR
  simp only [hggX]
  clear hw9 hps hb9 hk9 hbel hggX hkgR HPw3 HBw3 HgRw3
  go_wp2_with fail
  refine (needs_lit w0 w4 p s1 HPw4 [c_semi] (by decide) s2 ⟨As2.out⟩ _ rfl 1 rfl).mono ?_
  rintro e w5 ⟨rfl, HPw5, hb9⟩
  have HBw5 := Aside0.mk (HBw4.out.trans hb9.out)
  have HgRw5 := Aside0.mk (grown_block hb9.out HgRw4.out HNgR.out)
  have HgXw5 := Aside0.mk (grown_block hb9.out HgXw4.out HNgX.out)
  clear hb9 HPw4 HBw4 HgRw4 HgXw4
  go_wp2_with fail
  go_loopw [] (fun wr => ∃ (x : Sc) (xm : List (S45 × Nat × Nat)) (xe : List S68) (xt : List S72) (s : St) (Am : Option Addr) (cm : Nat) (Ae : Option Addr) (ce : Nat) (At : Option Addr) (ct : Nat), Aside0 (ScRel x nm xm xe xt wr.heap.size) ∧ Aside0 (declA x s = (X, S6)) ∧ xm.length + mu s ≤ 20001 ∧ xe.length + mu s ≤ 20001 ∧ xt.length + mu s ≤ 20001 ∧ Aside0 (PS w0 wr p s) ∧ Aside0 (w.grownBy wr (some p)) ∧ Aside0 (wr.heap[gR]? = some (.cells #[.string ⟨#[]⟩, .slice none 0 0, .slice none 0 0, .slice none 0 0] 27 (0, 0))) ∧ Aside0 (wr.heap[gX]? = some (.cells #[.string nm, .slice Am xm.length cm, .slice Ae xe.length ce, .slice At xt.length ct] 27 (0, 0))) ∧ Aside0 (kI.R 45 wr w.heap.size (fun _ => True) (.slice Am xm.length cm) (xm)) ∧ Aside0 (k68.R 68 wr w.heap.size (fun _ => True) (.slice Ae xe.length ce) (xe)) ∧ Aside0 (k72.R 72 wr w.heap.size (fun _ => True) (.slice At xt.length ct) (xt))) (fun wr => muW wr p)
  case atStart => exact ⟨⟨nm, [], [], []⟩, [], [], [], s2, none, 0, none, 0, none, 0, ⟨⟨rfl, rfl, rfl, rfl, List.Pairwise.nil, by simp⟩⟩, HE0, by simpa using hmu0, by simpa using hmu0, by simpa using hmu0, HPw5, HBw5, HgRw5, HgXw5, ⟨Kd.R_nil _ _ _ _ _⟩, ⟨Kd.R_nil _ _ _ _ _⟩, ⟨Kd.R_nil _ _ _ _ _⟩⟩
  case round =>
    clear HE0 hmu0 HPw5 HBw5 HgRw5 HgXw5
    obtain ⟨x, xm, xe, xt, s, Am, cm, Ae, ce, At, ct, HSR, HD, hlm, hle, hlt, HPwr, HBwr, HgRwr, HgXwr, HMwr, HEwr, HTwr⟩ := hrel
    obtain ⟨wo, hwo⟩ : ∃ x, x = wr := ⟨_, rfl⟩
    subst hwo
    have HPwo := HPwr
    have HBwo := HBwr
    have HgRwo := HgRwr
    have HgXwo := HgXwr
    have HMwo := HMwr
    have HEwo := HEwr
    have HTwo := HTwr
    clear HPwr HBwr HgRwr HgXwr HMwr HEwr HTwr
    have HZwo : Aside0 (wo.heap.size ≤ wo.heap.size) := ⟨Nat.le_refl _⟩
    have HMU := Aside0.mk HPwo.out.mu
    cases hb : s.2 with
    | true =>
      obtain ⟨u9, hk9⟩ := HPwo.out.wrong
      have c1 : wo.cell? ⟨p, 1, none⟩ = some (.bool s.2) := blk_cell hk9 1
      clear hk9
      rw [hb] at c1
      have hE2 := HD.out
      rw [declA_done x s (.inl hb)] at hE2
      obtain ⟨rfl, rfl⟩ := Prod.mk.inj hE2
      clear hE2 hb
      have HEND := Aside0.mk HSR.out
      have zgX0 : wo.cell? ⟨gX, 0, none⟩ = some (.string nm) := blk_cell HgXwo.out 0
      have zgX1 : wo.cell? ⟨gX, 1, none⟩ = some (.slice Am xm.length cm) := blk_cell HgXwo.out 1
      have zgX2 : wo.cell? ⟨gX, 2, none⟩ = some (.slice Ae xe.length ce) := blk_cell HgXwo.out 2
      have zgX3 : wo.cell? ⟨gX, 3, none⟩ = some (.slice At xt.length ct) := blk_cell HgXwo.out 3
      have zgR0 : wo.cell? ⟨gR, 0, none⟩ = some (.string ⟨#[]⟩) := blk_cell HgRwo.out 0
      have zgR1 : wo.cell? ⟨gR, 1, none⟩ = some (.slice none 0 0) := blk_cell HgRwo.out 1
      have zgR2 : wo.cell? ⟨gR, 2, none⟩ = some (.slice none 0 0) := blk_cell HgRwo.out 2
      have zgR3 : wo.cell? ⟨gR, 3, none⟩ = some (.slice none 0 0) := blk_cell HgRwo.out 3
      have hfzgR := fun i => blk_frozen HgRwo.out i
      go_wp2_with fail
      change bodyPost _ _ _ _ _ ((((wo.setCell ⟨gR, 0, none⟩ (.string nm)).setCell ⟨gR, 1, none⟩ (.slice Am xm.length cm)).setCell ⟨gR, 2, none⟩ (.slice Ae xe.length ce)).setCell ⟨gR, 3, none⟩ (.slice At xt.length ct))
      have hps := ((((HPwo.out.far HNgR.out HWgR.out 0 (.string nm)).far HNgR.out HWgR.out 1 (.slice Am xm.length cm)).far HNgR.out HWgR.out 2 (.slice Ae xe.length ce)).far HNgR.out HWgR.out 3 (.slice At xt.length ct))
      have hb9 := (grown_far (grown_far (grown_far (grown_far HBwo.out HLgR.out 0 (.string nm)) HLgR.out 1 (.slice Am xm.length cm)) HLgR.out 2 (.slice Ae xe.length ce)) HLgR.out 3 (.slice At xt.length ct))
      have hk9 := (blk_set (blk_set (blk_set (blk_set HgRwo.out 0 (.string nm)) 1 (.slice Am xm.length cm)) 2 (.slice Ae xe.length ce)) 3 (.slice At xt.length ct))
      simp only [List.setIfInBounds_toArray, List.set_cons_zero, List.set_cons_succ] at hk9
      have hkgX := (blk_far (blk_far (blk_far (blk_far HgXwo.out (p := ⟨gR, 0, none⟩) (fun e => HDgRgX.out e.symm) (.string nm)) (p := ⟨gR, 1, none⟩) (fun e => HDgRgX.out e.symm) (.slice Am xm.length cm)) (p := ⟨gR, 2, none⟩) (fun e => HDgRgX.out e.symm) (.slice Ae xe.length ce)) (p := ⟨gR, 3, none⟩) (fun e => HDgRgX.out e.symm) (.slice At xt.length ct))
      have hrM := (row_far (row_far (row_far (row_far HMwo.out HgRwo.out (by decide) 0 (.string nm)) (blk_set HgRwo.out 0 (.string nm)) (by decide) 1 (.slice Am xm.length cm)) (blk_set (blk_set HgRwo.out 0 (.string nm)) 1 (.slice Am xm.length cm)) (by decide) 2 (.slice Ae xe.length ce)) (blk_set (blk_set (blk_set HgRwo.out 0 (.string nm)) 1 (.slice Am xm.length cm)) 2 (.slice Ae xe.length ce)) (by decide) 3 (.slice At xt.length ct))
      have hrE := (row_far (row_far (row_far (row_far HEwo.out HgRwo.out (by decide) 0 (.string nm)) (blk_set HgRwo.out 0 (.string nm)) (by decide) 1 (.slice Am xm.length cm)) (blk_set (blk_set HgRwo.out 0 (.string nm)) 1 (.slice Am xm.length cm)) (by decide) 2 (.slice Ae xe.length ce)) (blk_set (blk_set (blk_set HgRwo.out 0 (.string nm)) 1 (.slice Am xm.length cm)) 2 (.slice Ae xe.length ce)) (by decide) 3 (.slice At xt.length ct))
      have hrT := (row_far (row_far (row_far (row_far HTwo.out HgRwo.out (by decide) 0 (.string nm)) (blk_set HgRwo.out 0 (.string nm)) (by decide) 1 (.slice Am xm.length cm)) (blk_set (blk_set HgRwo.out 0 (.string nm)) 1 (.slice Am xm.length cm)) (by decide) 2 (.slice Ae xe.length ce)) (blk_set (blk_set (blk_set HgRwo.out 0 (.string nm)) 1 (.slice Am xm.length cm)) 2 (.slice Ae xe.length ce)) (by decide) 3 (.slice At xt.length ct))
      obtain ⟨w6, hw9⟩ : ∃ x, ((((wo.setCell ⟨gR, 0, none⟩ (.string nm)).setCell ⟨gR, 1, none⟩ (.slice Am xm.length cm)).setCell ⟨gR, 2, none⟩ (.slice Ae xe.length ce)).setCell ⟨gR, 3, none⟩ (.slice At xt.length ct)) = x := ⟨_, rfl⟩
      rw [hw9] at hps hb9 hk9 hkgX hrM hrE hrT ⊢
      have HPw6 := Aside0.mk hps
      have HBw6 := Aside0.mk hb9
      have HgRw6 := Aside0.mk hk9
      have HgXw6 := Aside0.mk hkgX
      have HMw6 := Aside0.mk hrM
      have HEw6 := Aside0.mk hrE
      have HTw6 := Aside0.mk hrT
      clear hw9 hps hb9 hk9 hkgX hrM hrE hrT zgR0 zgR1 zgR2 zgR3 hfzgR HPwo HBwo HgRwo HgXwo HMwo HEwo HTwo
      clear zgX0 zgX1 zgX2 zgX3
      have zgR0 : w6.cell? ⟨gR, 0, none⟩ = some (.string nm) := blk_cell HgRw6.out 0
      have zgR1 : w6.cell? ⟨gR, 1, none⟩ = some (.slice Am xm.length cm) := blk_cell HgRw6.out 1
      have zgR2 : w6.cell? ⟨gR, 2, none⟩ = some (.slice Ae xe.length ce) := blk_cell HgRw6.out 2
      have zgR3 : w6.cell? ⟨gR, 3, none⟩ = some (.slice At xt.length ct) := blk_cell HgRw6.out 3
      refine bodyPost_ret (v := .agg #[.string nm, .slice Am xm.length cm, .slice Ae xe.length ce, .slice At xt.length ct]) ?_ rfl ?_
      · rw [results_cell rfl]
        go_simp
        first | rfl | done
      · exact ⟨Am, cm, Ae, ce, At, ct, xm, xe, xt, by rw [HSR.out.nam], ⟨⟨HSR.out.ms, HSR.out.es, HSR.out.ts, HSR.out.ap⟩⟩, HMw6, HEw6, HTw6, HPw6, HBw6⟩
    | false =>
      by_cases hnil : s.1 = []
      · obtain ⟨l9, b9⟩ := s
        simp only at hb hnil
        subst hb hnil
        obtain ⟨A8, c8, hk9⟩ := HPwo.out.emp
        have c0 : wo.cell? ⟨p, 0, none⟩ = some (.slice A8 0 c8) := blk_cell hk9 0
        have c1 : wo.cell? ⟨p, 1, none⟩ = some (.bool false) := blk_cell hk9 1
        clear hk9
        have hE2 := HD.out
        rw [declA_done x _ (.inr rfl)] at hE2
        obtain ⟨rfl, rfl⟩ := Prod.mk.inj hE2
        clear hE2
        have HEND := Aside0.mk HSR.out
        have zgX0 : wo.cell? ⟨gX, 0, none⟩ = some (.string nm) := blk_cell HgXwo.out 0
        have zgX1 : wo.cell? ⟨gX, 1, none⟩ = some (.slice Am xm.length cm) := blk_cell HgXwo.out 1
        have zgX2 : wo.cell? ⟨gX, 2, none⟩ = some (.slice Ae xe.length ce) := blk_cell HgXwo.out 2
        have zgX3 : wo.cell? ⟨gX, 3, none⟩ = some (.slice At xt.length ct) := blk_cell HgXwo.out 3
        have zgR0 : wo.cell? ⟨gR, 0, none⟩ = some (.string ⟨#[]⟩) := blk_cell HgRwo.out 0
        have zgR1 : wo.cell? ⟨gR, 1, none⟩ = some (.slice none 0 0) := blk_cell HgRwo.out 1
        have zgR2 : wo.cell? ⟨gR, 2, none⟩ = some (.slice none 0 0) := blk_cell HgRwo.out 2
        have zgR3 : wo.cell? ⟨gR, 3, none⟩ = some (.slice none 0 0) := blk_cell HgRwo.out 3
        have hfzgR := fun i => blk_frozen HgRwo.out i
        go_wp2_with fail
        change bodyPost _ _ _ _ _ ((((wo.setCell ⟨gR, 0, none⟩ (.string nm)).setCell ⟨gR, 1, none⟩ (.slice Am xm.length cm)).setCell ⟨gR, 2, none⟩ (.slice Ae xe.length ce)).setCell ⟨gR, 3, none⟩ (.slice At xt.length ct))
        have hps := ((((HPwo.out.far HNgR.out HWgR.out 0 (.string nm)).far HNgR.out HWgR.out 1 (.slice Am xm.length cm)).far HNgR.out HWgR.out 2 (.slice Ae xe.length ce)).far HNgR.out HWgR.out 3 (.slice At xt.length ct))
        have hb9 := (grown_far (grown_far (grown_far (grown_far HBwo.out HLgR.out 0 (.string nm)) HLgR.out 1 (.slice Am xm.length cm)) HLgR.out 2 (.slice Ae xe.length ce)) HLgR.out 3 (.slice At xt.length ct))
        have hk9 := (blk_set (blk_set (blk_set (blk_set HgRwo.out 0 (.string nm)) 1 (.slice Am xm.length cm)) 2 (.slice Ae xe.length ce)) 3 (.slice At xt.length ct))
        simp only [List.setIfInBounds_toArray, List.set_cons_zero, List.set_cons_succ] at hk9
        have hkgX := (blk_far (blk_far (blk_far (blk_far HgXwo.out (p := ⟨gR, 0, none⟩) (fun e => HDgRgX.out e.symm) (.string nm)) (p := ⟨gR, 1, none⟩) (fun e => HDgRgX.out e.symm) (.slice Am xm.length cm)) (p := ⟨gR, 2, none⟩) (fun e => HDgRgX.out e.symm) (.slice Ae xe.length ce)) (p := ⟨gR, 3, none⟩) (fun e => HDgRgX.out e.symm) (.slice At xt.length ct))
        have hrM := (row_far (row_far (row_far (row_far HMwo.out HgRwo.out (by decide) 0 (.string nm)) (blk_set HgRwo.out 0 (.string nm)) (by decide) 1 (.slice Am xm.length cm)) (blk_set (blk_set HgRwo.out 0 (.string nm)) 1 (.slice Am xm.length cm)) (by decide) 2 (.slice Ae xe.length ce)) (blk_set (blk_set (blk_set HgRwo.out 0 (.string nm)) 1 (.slice Am xm.length cm)) 2 (.slice Ae xe.length ce)) (by decide) 3 (.slice At xt.length ct))
        have hrE := (row_far (row_far (row_far (row_far HEwo.out HgRwo.out (by decide) 0 (.string nm)) (blk_set HgRwo.out 0 (.string nm)) (by decide) 1 (.slice Am xm.length cm)) (blk_set (blk_set HgRwo.out 0 (.string nm)) 1 (.slice Am xm.length cm)) (by decide) 2 (.slice Ae xe.length ce)) (blk_set (blk_set (blk_set HgRwo.out 0 (.string nm)) 1 (.slice Am xm.length cm)) 2 (.slice Ae xe.length ce)) (by decide) 3 (.slice At xt.length ct))
        have hrT := (row_far (row_far (row_far (row_far HTwo.out HgRwo.out (by decide) 0 (.string nm)) (blk_set HgRwo.out 0 (.string nm)) (by decide) 1 (.slice Am xm.length cm)) (blk_set (blk_set HgRwo.out 0 (.string nm)) 1 (.slice Am xm.length cm)) (by decide) 2 (.slice Ae xe.length ce)) (blk_set (blk_set (blk_set HgRwo.out 0 (.string nm)) 1 (.slice Am xm.length cm)) 2 (.slice Ae xe.length ce)) (by decide) 3 (.slice At xt.length ct))
        obtain ⟨w7, hw9⟩ : ∃ x, ((((wo.setCell ⟨gR, 0, none⟩ (.string nm)).setCell ⟨gR, 1, none⟩ (.slice Am xm.length cm)).setCell ⟨gR, 2, none⟩ (.slice Ae xe.length ce)).setCell ⟨gR, 3, none⟩ (.slice At xt.length ct)) = x := ⟨_, rfl⟩
        rw [hw9] at hps hb9 hk9 hkgX hrM hrE hrT ⊢
        have HPw7 := Aside0.mk hps
        have HBw7 := Aside0.mk hb9
        have HgRw7 := Aside0.mk hk9
        have HgXw7 := Aside0.mk hkgX
        have HMw7 := Aside0.mk hrM
        have HEw7 := Aside0.mk hrE
        have HTw7 := Aside0.mk hrT
        clear hw9 hps hb9 hk9 hkgX hrM hrE hrT zgR0 zgR1 zgR2 zgR3 hfzgR HPwo HBwo HgRwo HgXwo HMwo HEwo HTwo
        clear zgX0 zgX1 zgX2 zgX3
        have zgR0 : w7.cell? ⟨gR, 0, none⟩ = some (.string nm) := blk_cell HgRw7.out 0
        have zgR1 : w7.cell? ⟨gR, 1, none⟩ = some (.slice Am xm.length cm) := blk_cell HgRw7.out 1
        have zgR2 : w7.cell? ⟨gR, 2, none⟩ = some (.slice Ae xe.length ce) := blk_cell HgRw7.out 2
        have zgR3 : w7.cell? ⟨gR, 3, none⟩ = some (.slice At xt.length ct) := blk_cell HgRw7.out 3
        refine bodyPost_ret (v := .agg #[.string nm, .slice Am xm.length cm, .slice Ae xe.length ce, .slice At xt.length ct]) ?_ rfl ?_
        · rw [results_cell rfl]
          go_simp
          first | rfl | done
        · exact ⟨Am, cm, Ae, ce, At, ct, xm, xe, xt, by rw [HSR.out.nam], ⟨⟨HSR.out.ms, HSR.out.es, HSR.out.ts, HSR.out.ap⟩⟩, HMw7, HEw7, HTw7, HPw7, HBw7⟩
      · have hnl : 0 < s.1.length := List.length_pos_iff.2 hnil
        obtain ⟨A8, c8, hk9, _⟩ := HPwo.out.par
        have c0 : wo.cell? ⟨p, 0, none⟩ = some (.slice A8 s.1.length c8) := blk_cell hk9 0
        have c1 : wo.cell? ⟨p, 1, none⟩ = some (.bool s.2) := blk_cell hk9 1
        rw [hb] at c1
        clear hk9
        obtain ⟨n8, hn8⟩ : ∃ n, s.1.length = n := ⟨_, rfl⟩
        rw [hn8] at c0 hnl
        have d1 : decide ((0 : Int) < (n8 : Int)) = true := decide_eq_true (by omega)
        have d2 : decide (0 < n8) = true := decide_eq_true hnl
        clear hn8
        cases h1 : takesB w_message s with
        | true =>
          have HW1 := Aside0.mk h1
          have hm1 := mu_takes h1
          have hm2 := mu_mess (takesM w_message s)
          have HD2 := Aside0.mk (show declA _ _ = (X, S6) from by rw [← declA_message x s hb h1]; exact HD.out)
          obtain ⟨t1, ht1⟩ : ∃ x, takesM w_message s = x := ⟨_, rfl⟩
          obtain ⟨m, hm⟩ : ∃ x, messV t1 = x := ⟨_, rfl⟩
          obtain ⟨t9, ht9⟩ : ∃ x, messM t1 = x := ⟨_, rfl⟩
          rw [ht1] at hm1 hm2 HD2
          rw [ht9] at hm2
          rw [hm, ht9] at HD2
          have HT1 : Aside0 ((s.1.tail, s.2) = t1) := ⟨by rw [← ht1, takesM, if_pos h1]⟩
          have HMM : Aside0 (mu t9 < mu s) := ⟨by omega⟩
          have hq1 : xm.length + 1 + mu t9 ≤ 20001 := by omega
          have hq2 : xe.length + 0 + mu t9 ≤ 20001 := by omega
          have hq3 : xt.length + 0 + mu t9 ≤ 20001 := by omega
          have HQ1 := Aside0.mk hq1
          have HQ2 := Aside0.mk hq2
          have HQ3 := Aside0.mk hq3
          have hq4 : xm.length ≤ 20001 ∧ xe.length ≤ 20001 ∧ xt.length ≤ 20001 := by omega
          obtain ⟨hq5, hq6, hq7⟩ := hq4
          have Am_ := Aside0.mk hm
          have At9 := Aside0.mk ht9
          clear hm1 hm2 ht1 hm ht9 hq1 hq2 hq3 hb hnil HD
          go_wp2_with fail
          refine (takes_yes w0 wo p s HPwo w_message HW1 t1 HT1).mono ?_
          rintro e w8 ⟨rfl, HPw8, hb9⟩
          have HBw8 := Aside0.mk (HBwo.out.trans hb9.out)
          have HgRw8 := Aside0.mk (grown_block hb9.out HgRwo.out HNgR.out)
          have HgXw8 := Aside0.mk (grown_block hb9.out HgXwo.out HNgX.out)
          have HMw8 := Aside0.mk (row_call HMwo.out HPwo.out (by decide) hb9.out)
          have HEw8 := Aside0.mk (row_call HEwo.out HPwo.out (by decide) hb9.out)
          have HTw8 := Aside0.mk (row_call HTwo.out HPwo.out (by decide) hb9.out)
          have HZw8 := Aside0.mk (Nat.le_trans HZwo.out hb9.out.size)
          clear hb9 HPwo HBwo HgRwo HgXwo HMwo HEwo HTwo
          go_upto_region 7 with fail
          have HPd := Aside0.mk (HPw8.out.below (Below.refl w8.heap.size w8).drew)
          have HBd := Aside0.mk (HBw8.out.trans (below_grownBy (Below.refl w8.heap.size w8).drew (some p)))
          have HMd := Aside0.mk (Kd.R_below HMw8.out (Below.refl w8.heap.size w8).drew)
          have HEd := Aside0.mk (Kd.R_below HEw8.out (Below.refl w8.heap.size w8).drew)
          have HTd := Aside0.mk (Kd.R_below HTw8.out (Below.refl w8.heap.size w8).drew)
          have kd9 : w8.drew.cell? ⟨gX, 1, none⟩ = some (.slice Am xm.length cm) := blk_cell HgXw8.out 1
          obtain ⟨lo, hlo⟩ : ∃ x, w8.heap.size = x := ⟨_, rfl⟩
          have HLO : Aside0 (w8.drew.heap.size = lo) := ⟨hlo⟩
          have HOK : Aside0 (∀ k, lo ≤ k → True ∧ some k ≠ (Value.slice Am xm.length cm).ownBlock) := ⟨fun k hk => ⟨trivial, fun e => by obtain ⟨inner, ho⟩ := Kd.R_own HMw8.out; have := own_lt ho k e.symm; omega⟩⟩
          have HLW : Aside0 (w.heap.size ≤ lo) := ⟨by rw [← hlo]; exact HBw8.out.size⟩
          clear hlo
          go_region_law
            (first
              | (go_simp; go_at_call 35; refine (message_any2 w0 _ p t1 HPd m Am_ t9 At9).mono ?_; rintro e w2 ⟨A1, n1, c1, A2, n2, c2, rfl, hel, hp2, hb2⟩; rw [HLO.out] at hel; obtain ⟨hi, hhi⟩ : ∃ x, w2.heap.size = x := ⟨_, rfl⟩; rw [hhi] at hel; have HHI := Aside0.mk hhi; have HEL := Aside0.mk (kI_mk (Kd.M_lower_ hel.out HLW.out)); clear hel hhi; have HP2 := hp2; have HB2 := Aside0.mk (HBd.out.trans hb2.out); have HgR2 := Aside0.mk (grown_block hb2.out (show w8.drew.heap[gR]? = _ from HgRw8.out) HNgR.out); have HgX2 := Aside0.mk (grown_block hb2.out (show w8.drew.heap[gX]? = _ from HgXw8.out) HNgX.out); have HM2 := Aside0.mk (row_call HMd.out HPd.out (by decide) hb2.out); have HE2 := Aside0.mk (row_call HEd.out HPd.out (by decide) hb2.out); have HT2 := Aside0.mk (row_call HTd.out HPd.out (by decide) hb2.out); have HZ2 := Aside0.mk hb2.out.size; have k29 : w2.cell? ⟨gX, 1, none⟩ = some (.slice Am xm.length cm) := blk_cell HgX2.out 1; clear hp2 hb2; have k2A : (w2.alloc (.cells #[.string m.name, .slice A1 n1 c1, .slice A2 n2 c2] 45)).cell? ⟨gX, 1, none⟩ = some (.slice Am xm.length cm) := pw_cell_below ((Below.refl w2.heap.size w2).alloc (Nat.le_refl _) _) k29; go_simp)
              | (refine Kd.R_append_step kI (w0 := w2) (W := w2) w.heap.size rfl (.tmp 33) (.tmp 36) 23 45 (.agg #[.string ⟨#[]⟩, .slice none 0 0, .slice none 0 0]) 64 rfl Tryd.underlying23 infoMessage rfl (by decide) (by decide) (.slice Am xm.length cm) (xm) ((gS m, lo, hi)) [.string m.name, .slice A1 n1 c1, .slice A2 n2 c2] (fun _ => True) ((fun k => lo ≤ k)) rfl rfl HEL.out (fun k hk => HOK.out k hk) (fun _ _ => trivial) HM2.out (Below.refl _ _) HB2.out.size (by omega) ?_; intro v5 w5 hr5 hb5 hg5 hat5; obtain ⟨A9, c9, rfl⟩ := Kd.R_slice hr5; obtain ⟨hp9, hf9⟩ := app_frame HP2.out HB2.out H.out.bel.size HM2.out (by decide) hg5; have HP5 := Aside0.mk hp9; have HB5 := Aside0.mk hf9; have HgR5 := Aside0.mk (blk_grown HgR2.out hg5 (Kd.R_ne HM2.out HgR2.out (by decide))); have HgX5 := Aside0.mk (blk_grown HgX2.out hg5 (Kd.R_ne HM2.out HgX2.out (by decide))); have HE5 := Aside0.mk (row_other HE2.out HM2.out (by decide) hg5); have HT5 := Aside0.mk (row_other HT2.out HM2.out (by decide) hg5); have HM5 := Aside0.mk hr5; have k59 : w5.cell? ⟨gX, 1, none⟩ = some (.slice Am xm.length cm) := blk_cell HgX5.out 1; have z59 := blk_frozen HgX5.out 1; have HZ5 := Aside0.mk hg5.size; clear hr5 hb5 hg5 hat5 hp9 hf9; go_simp))
          all_goals
            go_wp2_with fail
            have hps := HP5.out.far HNgX.out HWgX.out 1 (.slice A9 (xm ++ [(gS m, lo, hi)]).length c9)
            have hb9 := grown_far HB5.out HLgX.out 1 (.slice A9 (xm ++ [(gS m, lo, hi)]).length c9)
            have hk9 := blk_set HgX5.out 1 (.slice A9 (xm ++ [(gS m, lo, hi)]).length c9)
            simp only [List.setIfInBounds_toArray, List.set_cons_zero, List.set_cons_succ] at hk9
            have hkR := blk_far HgR5.out (p := ⟨gX, 1, none⟩) HDgRgX.out (.slice A9 (xm ++ [(gS m, lo, hi)]).length c9)
            have hrM := row_far HM5.out HgX5.out (by decide) 1 (.slice A9 (xm ++ [(gS m, lo, hi)]).length c9)
            have hrE := row_far HE5.out HgX5.out (by decide) 1 (.slice A9 (xm ++ [(gS m, lo, hi)]).length c9)
            have hrT := row_far HT5.out HgX5.out (by decide) 1 (.slice A9 (xm ++ [(gS m, lo, hi)]).length c9)
            simp only [List.length_append, List.length_cons, List.length_nil, Nat.zero_add] at hk9 hps hb9 hkR hrM hrE hrT
            have HP9 := Aside0.mk hps
            have HB9 := Aside0.mk hb9
            have HgR9 := Aside0.mk hkR
            have HgX9 := Aside0.mk hk9
            have HM9 := Aside0.mk hrM
            have HE9 := Aside0.mk hrE
            have HT9 := Aside0.mk hrT
            have HMY := Aside0.mk hps.mu
            clear hps hb9 hkR hk9 hrM hrE hrT
            go_roundw
            case rel => exact ⟨{ x with msgs := x.msgs ++ [m] }, xm ++ [(gS m, lo, hi)], xe, xt, t9, A9, c9, Ae, ce, At, ct, ⟨HSR.out.addM m lo hi (by have h9 : _ = lo := HLO.out; rw [← h9]; exact HZw8.out) (by rw [World.size_setCell, ← HHI.out]; exact HZ5.out) (by rw [World.size_setCell]; exact Nat.le_trans HZw8.out (Nat.le_trans HZ2.out HZ5.out))⟩, HD2, by simpa using HQ1.out, by simpa using HQ2.out, by simpa using HQ3.out, HP9, HB9, HgR9, ⟨by rw [List.length_append]; exact HgX9.out⟩, ⟨by rw [List.length_append]; exact HM9.out⟩, HE9, HT9⟩
            case measure => rw [HMY.out, HMU.out]; exact HMM.out
        | false =>
          have HW1 := Aside0.mk h1
          cases h2 : takesB w_enum s with
          | true =>
            have HW2 := Aside0.mk h2
            have hm1 := mu_takes h2
            have hm2 := mu_enum (takesM w_enum s)
            have HD2 := Aside0.mk (show declA _ _ = (X, S6) from by rw [← declA_enum x s hb h1 h2]; exact HD.out)
            obtain ⟨t1, ht1⟩ : ∃ x, takesM w_enum s = x := ⟨_, rfl⟩
            obtain ⟨m, hm⟩ : ∃ x, enumV t1 = x := ⟨_, rfl⟩
            obtain ⟨t9, ht9⟩ : ∃ x, enumM t1 = x := ⟨_, rfl⟩
            rw [ht1] at hm1 hm2 HD2
            rw [ht9] at hm2
            rw [hm, ht9] at HD2
            have HT1 : Aside0 ((s.1.tail, s.2) = t1) := ⟨by rw [← ht1, takesM, if_pos h2]⟩
            have HMM : Aside0 (mu t9 < mu s) := ⟨by omega⟩
            have hq1 : xm.length + 0 + mu t9 ≤ 20001 := by omega
            have hq2 : xe.length + 1 + mu t9 ≤ 20001 := by omega
            have hq3 : xt.length + 0 + mu t9 ≤ 20001 := by omega
            have HQ1 := Aside0.mk hq1
            have HQ2 := Aside0.mk hq2
            have HQ3 := Aside0.mk hq3
            have hq4 : xm.length ≤ 20001 ∧ xe.length ≤ 20001 ∧ xt.length ≤ 20001 := by omega
            obtain ⟨hq5, hq6, hq7⟩ := hq4
            have Am_ := Aside0.mk hm
            have At9 := Aside0.mk ht9
            clear hm1 hm2 ht1 hm ht9 hq1 hq2 hq3 hb hnil HD
            go_wp2_with fail
            refine (takes_no w0 wo p s HPwo w_message HW1).mono ?_
            rintro e w' ⟨rfl, rfl⟩
            go_wp2_with fail
            refine (takes_yes w0 wo p s HPwo w_enum HW2 t1 HT1).mono ?_
            rintro e w9 ⟨rfl, HPw9, hb9⟩
            have HBw9 := Aside0.mk (HBwo.out.trans hb9.out)
            have HgRw9 := Aside0.mk (grown_block hb9.out HgRwo.out HNgR.out)
            have HgXw9 := Aside0.mk (grown_block hb9.out HgXwo.out HNgX.out)
            have HMw9 := Aside0.mk (row_call HMwo.out HPwo.out (by decide) hb9.out)
            have HEw9 := Aside0.mk (row_call HEwo.out HPwo.out (by decide) hb9.out)
            have HTw9 := Aside0.mk (row_call HTwo.out HPwo.out (by decide) hb9.out)
            have HZw9 := Aside0.mk (Nat.le_trans HZwo.out hb9.out.size)
            clear hb9 HPwo HBwo HgRwo HgXwo HMwo HEwo HTwo
            go_upto_region 9 with fail
            have HPd := Aside0.mk (HPw9.out.below (Below.refl w9.heap.size w9).drew)
            have HBd := Aside0.mk (HBw9.out.trans (below_grownBy (Below.refl w9.heap.size w9).drew (some p)))
            have HMd := Aside0.mk (Kd.R_below HMw9.out (Below.refl w9.heap.size w9).drew)
            have HEd := Aside0.mk (Kd.R_below HEw9.out (Below.refl w9.heap.size w9).drew)
            have HTd := Aside0.mk (Kd.R_below HTw9.out (Below.refl w9.heap.size w9).drew)
            have kd9 : w9.drew.cell? ⟨gX, 2, none⟩ = some (.slice Ae xe.length ce) := blk_cell HgXw9.out 2
            obtain ⟨lo, hlo⟩ : ∃ x, w9.heap.size = x := ⟨_, rfl⟩
            have HLO : Aside0 (w9.drew.heap.size = lo) := ⟨hlo⟩
            have HOK : Aside0 (∀ k, lo ≤ k → True ∧ some k ≠ (Value.slice Ae xe.length ce).ownBlock) := ⟨fun k hk => ⟨trivial, fun e => by obtain ⟨inner, ho⟩ := Kd.R_own HEw9.out; have := own_lt ho k e.symm; omega⟩⟩
            have HLW : Aside0 (w.heap.size ≤ lo) := ⟨by rw [← hlo]; exact HBw9.out.size⟩
            clear hlo
            go_region_law
              (first
                | (go_simp; go_at_call 36; refine (enum_any2 w0 _ p t1 HPd m Am_ t9 At9).mono ?_; rintro e w2 ⟨A1, n1, c1, rfl, hel, hp2, hb2⟩; rw [HLO.out] at hel; have HEL := Aside0.mk (Kd.M_lower_ hel.out HLW.out); clear hel; have HP2 := hp2; have HB2 := Aside0.mk (HBd.out.trans hb2.out); have HgR2 := Aside0.mk (grown_block hb2.out (show w9.drew.heap[gR]? = _ from HgRw9.out) HNgR.out); have HgX2 := Aside0.mk (grown_block hb2.out (show w9.drew.heap[gX]? = _ from HgXw9.out) HNgX.out); have HM2 := Aside0.mk (row_call HMd.out HPd.out (by decide) hb2.out); have HE2 := Aside0.mk (row_call HEd.out HPd.out (by decide) hb2.out); have HT2 := Aside0.mk (row_call HTd.out HPd.out (by decide) hb2.out); have HZ2 := Aside0.mk hb2.out.size; have k29 : w2.cell? ⟨gX, 2, none⟩ = some (.slice Ae xe.length ce) := blk_cell HgX2.out 2; clear hp2 hb2; have k2A : (w2.alloc (.cells #[.string m.name, .slice A1 n1 c1] 68)).cell? ⟨gX, 2, none⟩ = some (.slice Ae xe.length ce) := pw_cell_below ((Below.refl w2.heap.size w2).alloc (Nat.le_refl _) _) k29; go_simp)
                | (refine Kd.R_append_step k68 (w0 := w2) (W := w2) w.heap.size rfl (.tmp 43) (.tmp 46) 24 68 (.agg #[.string ⟨#[]⟩, .slice none 0 0]) 40 rfl Tryd.underlying24 infoEnum rfl (by decide) (by decide) (.slice Ae xe.length ce) (xe) (eS m) [.string m.name, .slice A1 n1 c1] (fun _ => True) ((fun k => lo ≤ k)) rfl rfl HEL.out (fun k hk => HOK.out k hk) (fun _ _ => trivial) HE2.out (Below.refl _ _) HB2.out.size (by omega) ?_; intro v5 w5 hr5 hb5 hg5 hat5; obtain ⟨A9, c9, rfl⟩ := Kd.R_slice hr5; obtain ⟨hp9, hf9⟩ := app_frame HP2.out HB2.out H.out.bel.size HE2.out (by decide) hg5; have HP5 := Aside0.mk hp9; have HB5 := Aside0.mk hf9; have HgR5 := Aside0.mk (blk_grown HgR2.out hg5 (Kd.R_ne HE2.out HgR2.out (by decide))); have HgX5 := Aside0.mk (blk_grown HgX2.out hg5 (Kd.R_ne HE2.out HgX2.out (by decide))); have HM5 := Aside0.mk (row_other HM2.out HE2.out (by decide) hg5); have HT5 := Aside0.mk (row_other HT2.out HE2.out (by decide) hg5); have HE5 := Aside0.mk hr5; have k59 : w5.cell? ⟨gX, 2, none⟩ = some (.slice Ae xe.length ce) := blk_cell HgX5.out 2; have z59 := blk_frozen HgX5.out 2; have HZ5 := Aside0.mk hg5.size; clear hr5 hb5 hg5 hat5 hp9 hf9; go_simp))
            all_goals
              go_wp2_with fail
              have hps := HP5.out.far HNgX.out HWgX.out 2 (.slice A9 (xe ++ [eS m]).length c9)
              have hb9 := grown_far HB5.out HLgX.out 2 (.slice A9 (xe ++ [eS m]).length c9)
              have hk9 := blk_set HgX5.out 2 (.slice A9 (xe ++ [eS m]).length c9)
              simp only [List.setIfInBounds_toArray, List.set_cons_zero, List.set_cons_succ] at hk9
              have hkR := blk_far HgR5.out (p := ⟨gX, 2, none⟩) HDgRgX.out (.slice A9 (xe ++ [eS m]).length c9)
              have hrM := row_far HM5.out HgX5.out (by decide) 2 (.slice A9 (xe ++ [eS m]).length c9)
              have hrE := row_far HE5.out HgX5.out (by decide) 2 (.slice A9 (xe ++ [eS m]).length c9)
              have hrT := row_far HT5.out HgX5.out (by decide) 2 (.slice A9 (xe ++ [eS m]).length c9)
              simp only [List.length_append, List.length_cons, List.length_nil, Nat.zero_add] at hk9 hps hb9 hkR hrM hrE hrT
              have HP9 := Aside0.mk hps
              have HB9 := Aside0.mk hb9
              have HgR9 := Aside0.mk hkR
              have HgX9 := Aside0.mk hk9
              have HM9 := Aside0.mk hrM
              have HE9 := Aside0.mk hrE
              have HT9 := Aside0.mk hrT
              have HMY := Aside0.mk hps.mu
              clear hps hb9 hkR hk9 hrM hrE hrT
              go_roundw
              case rel => exact ⟨{ x with enums := x.enums ++ [m] }, xm, xe ++ [eS m], xt, t9, Am, cm, A9, c9, At, ct, ⟨HSR.out.addE m (by rw [World.size_setCell]; exact Nat.le_trans HZw9.out (Nat.le_trans HZ2.out HZ5.out))⟩, HD2, by simpa using HQ1.out, by simpa using HQ2.out, by simpa using HQ3.out, HP9, HB9, HgR9, ⟨by rw [List.length_append]; exact HgX9.out⟩, HM9, ⟨by rw [List.length_append]; exact HE9.out⟩, HT9⟩
              case measure => rw [HMY.out, HMU.out]; exact HMM.out
          | false =>
            have HW2 := Aside0.mk h2
            cases h3 : takesB w_call s with
            | true =>
              have HW3 := Aside0.mk h3
              have hm1 := mu_takes h3
              have hm2 := mu_call (takesM w_call s)
              have HD2 := Aside0.mk (show declA _ _ = (X, S6) from by rw [← declA_call x s hb h1 h2 h3]; exact HD.out)
              obtain ⟨t1, ht1⟩ : ∃ x, takesM w_call s = x := ⟨_, rfl⟩
              obtain ⟨m, hm⟩ : ∃ x, callV t1 = x := ⟨_, rfl⟩
              obtain ⟨t9, ht9⟩ : ∃ x, callM t1 = x := ⟨_, rfl⟩
              rw [ht1] at hm1 hm2 HD2
              rw [ht9] at hm2
              rw [hm, ht9] at HD2
              have HT1 : Aside0 ((s.1.tail, s.2) = t1) := ⟨by rw [← ht1, takesM, if_pos h3]⟩
              have HMM : Aside0 (mu t9 < mu s) := ⟨by omega⟩
              have hq1 : xm.length + 0 + mu t9 ≤ 20001 := by omega
              have hq2 : xe.length + 0 + mu t9 ≤ 20001 := by omega
              have hq3 : xt.length + 1 + mu t9 ≤ 20001 := by omega
              have HQ1 := Aside0.mk hq1
              have HQ2 := Aside0.mk hq2
              have HQ3 := Aside0.mk hq3
              have hq4 : xm.length ≤ 20001 ∧ xe.length ≤ 20001 ∧ xt.length ≤ 20001 := by omega
              obtain ⟨hq5, hq6, hq7⟩ := hq4
              have Am_ := Aside0.mk hm
              have At9 := Aside0.mk ht9
              clear hm1 hm2 ht1 hm ht9 hq1 hq2 hq3 hb hnil HD
              go_wp2_with fail
              refine (takes_no w0 wo p s HPwo w_message HW1).mono ?_
              rintro e w' ⟨rfl, rfl⟩
              go_wp2_with fail
              refine (takes_no w0 wo p s HPwo w_enum HW2).mono ?_
              rintro e w' ⟨rfl, rfl⟩
              go_wp2_with fail
              refine (takes_yes w0 wo p s HPwo w_call HW3 t1 HT1).mono ?_
              rintro e w10 ⟨rfl, HPw10, hb9⟩
              have HBw10 := Aside0.mk (HBwo.out.trans hb9.out)
              have HgRw10 := Aside0.mk (grown_block hb9.out HgRwo.out HNgR.out)
              have HgXw10 := Aside0.mk (grown_block hb9.out HgXwo.out HNgX.out)
              have HMw10 := Aside0.mk (row_call HMwo.out HPwo.out (by decide) hb9.out)
              have HEw10 := Aside0.mk (row_call HEwo.out HPwo.out (by decide) hb9.out)
              have HTw10 := Aside0.mk (row_call HTwo.out HPwo.out (by decide) hb9.out)
              have HZw10 := Aside0.mk (Nat.le_trans HZwo.out hb9.out.size)
              clear hb9 HPwo HBwo HgRwo HgXwo HMwo HEwo HTwo
              go_upto_region 11 with fail
              have HPd := Aside0.mk (HPw10.out.below (Below.refl w10.heap.size w10).drew)
              have HBd := Aside0.mk (HBw10.out.trans (below_grownBy (Below.refl w10.heap.size w10).drew (some p)))
              have HMd := Aside0.mk (Kd.R_below HMw10.out (Below.refl w10.heap.size w10).drew)
              have HEd := Aside0.mk (Kd.R_below HEw10.out (Below.refl w10.heap.size w10).drew)
              have HTd := Aside0.mk (Kd.R_below HTw10.out (Below.refl w10.heap.size w10).drew)
              have kd9 : w10.drew.cell? ⟨gX, 3, none⟩ = some (.slice At xt.length ct) := blk_cell HgXw10.out 3
              obtain ⟨lo, hlo⟩ : ∃ x, w10.heap.size = x := ⟨_, rfl⟩
              have HLO : Aside0 (w10.drew.heap.size = lo) := ⟨hlo⟩
              have HOK : Aside0 (∀ k, lo ≤ k → True ∧ some k ≠ (Value.slice At xt.length ct).ownBlock) := ⟨fun k hk => ⟨trivial, fun e => by obtain ⟨inner, ho⟩ := Kd.R_own HTw10.out; have := own_lt ho k e.symm; omega⟩⟩
              have HLW : Aside0 (w.heap.size ≤ lo) := ⟨by rw [← hlo]; exact HBw10.out.size⟩
              clear hlo
              go_region_law
                (first
                  | (go_simp; go_at_call 37; refine (call_any2 w0 _ p t1 HPd m Am_ t9 At9).mono ?_; rintro e w2 ⟨rfl, hp2, hb2⟩; have HP2 := hp2; have HB2 := Aside0.mk (HBd.out.trans hb2.out); have HgR2 := Aside0.mk (grown_block hb2.out (show w10.drew.heap[gR]? = _ from HgRw10.out) HNgR.out); have HgX2 := Aside0.mk (grown_block hb2.out (show w10.drew.heap[gX]? = _ from HgXw10.out) HNgX.out); have HM2 := Aside0.mk (row_call HMd.out HPd.out (by decide) hb2.out); have HE2 := Aside0.mk (row_call HEd.out HPd.out (by decide) hb2.out); have HT2 := Aside0.mk (row_call HTd.out HPd.out (by decide) hb2.out); have HZ2 := Aside0.mk hb2.out.size; have k29 : w2.cell? ⟨gX, 3, none⟩ = some (.slice At xt.length ct) := blk_cell HgX2.out 3; clear hp2 hb2; have k2A : (w2.alloc (.cells #[.string m.name, .string m.inn, .string m.out] 72)).cell? ⟨gX, 3, none⟩ = some (.slice At xt.length ct) := pw_cell_below ((Below.refl w2.heap.size w2).alloc (Nat.le_refl _) _) k29; go_simp)
                  | (refine Kd.R_append_step k72 (w0 := w2) (W := w2) w.heap.size rfl (.tmp 53) (.tmp 56) 25 72 (.agg #[.string ⟨#[]⟩, .string ⟨#[]⟩, .string ⟨#[]⟩]) 48 rfl Tryd.underlying25 infoMethod rfl (by decide) (by decide) (.slice At xt.length ct) (xt) (mS m) [.string m.name, .string m.inn, .string m.out] (fun _ => True) ((fun _ => False)) rfl rfl (k72_mkM _ _ _ (mS m)) (fun _ h => h.elim) (fun _ _ => trivial) HT2.out (Below.refl _ _) HB2.out.size (by omega) ?_; intro v5 w5 hr5 hb5 hg5 hat5; obtain ⟨A9, c9, rfl⟩ := Kd.R_slice hr5; obtain ⟨hp9, hf9⟩ := app_frame HP2.out HB2.out H.out.bel.size HT2.out (by decide) hg5; have HP5 := Aside0.mk hp9; have HB5 := Aside0.mk hf9; have HgR5 := Aside0.mk (blk_grown HgR2.out hg5 (Kd.R_ne HT2.out HgR2.out (by decide))); have HgX5 := Aside0.mk (blk_grown HgX2.out hg5 (Kd.R_ne HT2.out HgX2.out (by decide))); have HM5 := Aside0.mk (row_other HM2.out HT2.out (by decide) hg5); have HE5 := Aside0.mk (row_other HE2.out HT2.out (by decide) hg5); have HT5 := Aside0.mk hr5; have k59 : w5.cell? ⟨gX, 3, none⟩ = some (.slice At xt.length ct) := blk_cell HgX5.out 3; have z59 := blk_frozen HgX5.out 3; have HZ5 := Aside0.mk hg5.size; clear hr5 hb5 hg5 hat5 hp9 hf9; go_simp))
              all_goals
                go_wp2_with fail
                have hps := HP5.out.far HNgX.out HWgX.out 3 (.slice A9 (xt ++ [mS m]).length c9)
                have hb9 := grown_far HB5.out HLgX.out 3 (.slice A9 (xt ++ [mS m]).length c9)
                have hk9 := blk_set HgX5.out 3 (.slice A9 (xt ++ [mS m]).length c9)
                simp only [List.setIfInBounds_toArray, List.set_cons_zero, List.set_cons_succ] at hk9
                have hkR := blk_far HgR5.out (p := ⟨gX, 3, none⟩) HDgRgX.out (.slice A9 (xt ++ [mS m]).length c9)
                have hrM := row_far HM5.out HgX5.out (by decide) 3 (.slice A9 (xt ++ [mS m]).length c9)
                have hrE := row_far HE5.out HgX5.out (by decide) 3 (.slice A9 (xt ++ [mS m]).length c9)
                have hrT := row_far HT5.out HgX5.out (by decide) 3 (.slice A9 (xt ++ [mS m]).length c9)
                simp only [List.length_append, List.length_cons, List.length_nil, Nat.zero_add] at hk9 hps hb9 hkR hrM hrE hrT
                have HP9 := Aside0.mk hps
                have HB9 := Aside0.mk hb9
                have HgR9 := Aside0.mk hkR
                have HgX9 := Aside0.mk hk9
                have HM9 := Aside0.mk hrM
                have HE9 := Aside0.mk hrE
                have HT9 := Aside0.mk hrT
                have HMY := Aside0.mk hps.mu
                clear hps hb9 hkR hk9 hrM hrE hrT
                go_roundw
                case rel => exact ⟨{ x with meths := x.meths ++ [m] }, xm, xe, xt ++ [mS m], t9, Am, cm, Ae, ce, A9, c9, ⟨HSR.out.addT m (by rw [World.size_setCell]; exact Nat.le_trans HZw10.out (Nat.le_trans HZ2.out HZ5.out))⟩, HD2, by simpa using HQ1.out, by simpa using HQ2.out, by simpa using HQ3.out, HP9, HB9, HgR9, ⟨by rw [List.length_append]; exact HgX9.out⟩, HM9, HE9, ⟨by rw [List.length_append]; exact HT9.out⟩⟩
                case measure => rw [HMY.out, HMU.out]; exact HMM.out
            | false =>
              have HW3 := Aside0.mk h3
              have HD2 : Aside0 (declA x (s.1, true) = (X, S6)) := ⟨by rw [declA_done x _ (.inl rfl), ← declA_none x s hb hnil h1 h2 h3]; exact HD.out⟩
              have hmz : mu (s.1, true) = 0 := rfl
              have hm1 := mu_pos hb
              have HMM : Aside0 (mu (s.1, true) < mu s) := ⟨by omega⟩
              have HQ1 : Aside0 (xm.length + mu (s.1, true) ≤ 20001) := ⟨by omega⟩
              have HQ2 : Aside0 (xe.length + mu (s.1, true) ≤ 20001) := ⟨by omega⟩
              have HQ3 : Aside0 (xt.length + mu (s.1, true) ≤ 20001) := ⟨by omega⟩
              clear hmz hm1 hb hnil h1 h2 h3
              go_wp2_with fail
              refine (takes_no w0 wo p s HPwo w_message HW1).mono ?_
              rintro e w' ⟨rfl, rfl⟩
              go_wp2_with fail
              refine (takes_no w0 wo p s HPwo w_enum HW2).mono ?_
              rintro e w' ⟨rfl, rfl⟩
              go_wp2_with fail
              refine (takes_no w0 wo p s HPwo w_call HW3).mono ?_
              rintro e w' ⟨rfl, rfl⟩
              obtain ⟨v9, hk9⟩ := HPwo.out.wrong
              have z1 := blk_frozen hk9 1
              obtain ⟨h8, h9⟩ := HPwo.out.bad
              have hkR := blk_far HgRwo.out (p := ⟨p, 1, none⟩) HNgR.out (.bool true)
              have hkX := blk_far HgXwo.out (p := ⟨p, 1, none⟩) HNgX.out (.bool true)
              have hrM := row_far HMwo.out hk9 (by decide) 1 (.bool true)
              have hrE := row_far HEwo.out hk9 (by decide) 1 (.bool true)
              have hrT := row_far HTwo.out hk9 (by decide) 1 (.bool true)
              have HP9 := Aside0.mk h8
              have HB9 := Aside0.mk (HBwo.out.trans h9)
              have HgR9 := Aside0.mk hkR
              have HgX9 := Aside0.mk hkX
              have HM9 := Aside0.mk hrM
              have HE9 := Aside0.mk hrE
              have HT9 := Aside0.mk hrT
              have HMY := Aside0.mk h8.mu
              clear h8 h9 hk9 hkR hkX hrM hrE hrT
              go_wp2_with fail
              go_roundw
              case rel => exact ⟨x, xm, xe, xt, (s.1, true), Am, cm, Ae, ce, At, ct, ⟨HSR.out.more (by rw [World.size_setCell]; exact Nat.le_refl _)⟩, HD2, HQ1.out, HQ2.out, HQ3.out, HP9, HB9, HgR9, HgX9, HM9, HE9, HT9⟩
              case measure => rw [HMY.out, HMU.out]; exact HMM.out
end Go.Proofs.YtbfhglaaombglaaDoor

/- Maps that a call has made, as lists of key, element and stamp: look-up, entry, store, delete. -/
namespace Go.Proofs.YtbfhglaaombglaaDoor
set_option linter.unusedVariables false
set_option linter.unusedSimpArgs false
open Go.RowKit Go.ChangeMaps
set_option linter.unusedSectionVars false

section
variable {κ ν : Type} [DecidableEq κ]
def ent (kv : κ → Value) (vv : ν → Value) (e : κ × ν × Nat) : MapEntry := ⟨kv e.1, vv e.2.1, e.2.2⟩
/-- What a list of entries holds for a key. -/
def getL (L : List (κ × ν × Nat)) (k : κ) : Option ν := (L.find? (fun e => decide (e.1 = k))).map (·.2.1)
/-- Keys of a type, as values. -/
structure KeyOk (P : Program) (kt : TypeId) (kv : κ → Value) (ok : κ → Prop) : Prop where
  law : Maps.Keyed P kt
  lit : ∀ x, ok x → ∃ l, keyOf P kt (kv x) = some l
  inj : ∀ x y, kv x = kv y → x = y
/-- A map's block is such a list. -/
structure MapRel (kv : κ → Value) (vv : ν → Value) (ok : κ → Prop) (w : World) (b : Nat) (L : List (κ × ν × Nat)) (c : Nat) : Prop where
  blk : w.heap[b]? = some (.map (L.map (ent kv vv)).toArray c)
  keys : L.Pairwise (fun p q => p.1 ≠ q.1)
  oks : ∀ e ∈ L, ok e.1
  born : ∀ e ∈ L, e.2.2 < c
  stamps : L.Pairwise (fun p q => p.2.2 ≠ q.2.2)

variable {P : Program} {kt et t : TypeId} {kv : κ → Value} {vv : ν → Value} {ok : κ → Prop} {w : World} {b c : Nat} {L : List (κ × ν × Nat)}

theorem getL_none {k : κ} (h : ∀ e ∈ L, e.1 ≠ k) : getL L k = none := by
  rw [getL, List.find?_eq_none.2 (fun e he => by simp [h e he])]
  rfl
theorem getL_at (hk : L.Pairwise (fun p q => p.1 ≠ q.1)) {j : Nat} {k : κ} {v : ν} {s : Nat} (h : L[j]? = some (k, v, s)) : getL L k = some v := by
  induction L generalizing j with
  | nil => simp at h
  | cons e l ih =>
    cases j with
    | zero =>
      simp only [List.getElem?_cons_zero, Option.some.injEq] at h
      subst h
      simp [getL]
    | succ j =>
      simp only [List.getElem?_cons_succ] at h
      have hm := List.mem_of_getElem? h
      have hne := (List.pairwise_cons.1 hk).1 _ hm
      have := ih (List.pairwise_cons.1 hk).2 h
      rw [getL] at this ⊢
      rw [List.find?_cons_of_neg (by simpa using hne)]
      exact this
theorem MapRel.find (K : KeyOk P kt kv ok) (h : MapRel kv vv ok w b L c) (k : κ) (hk : ok k) (W : World) :
    ((Instr.findKey kt (kv k) (L.map (ent kv vv))).run P W = .ok none W ∧ (∀ e ∈ L, e.1 ≠ k)) ∨
    ∃ j v s, (Instr.findKey kt (kv k) (L.map (ent kv vv))).run P W = .ok (some (j, vv v)) W ∧ L[j]? = some (k, v, s) := by
  obtain ⟨l, hl⟩ := K.lit k hk
  have hall : ∀ e ∈ L.map (ent kv vv), ∃ l, keyOf P kt e.key = some l := by
    intro e he
    obtain ⟨x, hx, rfl⟩ := List.mem_map.1 he
    exact K.lit x.1 (h.oks x hx)
  rcases K.law.find W hl _ hall with ⟨h1, h2⟩ | ⟨j, e, h1, h2, h3⟩
  · refine .inl ⟨h1, fun e he hek => h2 _ (List.mem_map.2 ⟨e, he, rfl⟩) ?_⟩
    rw [← hek]
    rfl
  · rw [List.getElem?_map] at h2
    obtain ⟨x, hx, rfl⟩ := Option.map_eq_some_iff.1 h2
    obtain ⟨k', v, s⟩ := x
    have : k' = k := K.inj _ _ h3
    subst this
    exact .inr ⟨j, v, s, h1, hx⟩

theorem MapRel.lookup (K : KeyOk P kt kv ok) (h : MapRel kv vv ok w b L c) (ht : P.underlying t = some (.map kt et)) {z : Value} (hz : ∀ W, (zeroValue et).run P W = .ok z W) (k : κ) (hk : ok k) :
    (Instr.lookup t (.map (some b)) (kv k) true).run P w = .ok (.tuple #[((getL L k).map vv).getD z, .bool (getL L k).isSome]) w := by
  obtain ⟨l, hl⟩ := K.lit k hk
  rcases h.find K k hk w with ⟨h1, h2⟩ | ⟨j, v, s, h1, h2⟩
  · rw [getL_none h2]
    simp [Instr.lookup, run_underlying ht, MapKept.run_getObj_map h.blk, K.law.check w _ hl, h1, hz, Result.andThen]
  · rw [getL_at h.keys h2]
    simp [Instr.lookup, run_underlying ht, MapKept.run_getObj_map h.blk, K.law.check w _ hl, h1, Result.andThen]
/-- The world with another map in that block. -/
theorem MapRel.set (hb : b < w.heap.size) {L' : List (κ × ν × Nat)} {c' : Nat} (hk : L'.Pairwise (fun p q => p.1 ≠ q.1)) (ho : ∀ e ∈ L', ok e.1) (hbn : ∀ e ∈ L', e.2.2 < c') (hs : L'.Pairwise (fun p q => p.2.2 ≠ q.2.2)) :
    MapRel kv vv ok (setBlock w b (.map (L'.map (ent kv vv)).toArray c')) b L' c' where
  blk := by simp [setBlock, hb]
  keys := hk
  oks := ho
  born := hbn
  stamps := hs
theorem MapRel.lt (h : MapRel kv vv ok w b L c) : b < w.heap.size := (Array.getElem?_eq_some_iff.1 h.blk).1
theorem MapRel.of_heap (h : MapRel kv vv ok w b L c) {w1 : World} (he : w1.heap[b]? = w.heap[b]?) : MapRel kv vv ok w1 b L c := ⟨he ▸ h.blk, h.keys, h.oks, h.born, h.stamps⟩

/-- An entry for a key that is not there. -/
theorem MapRel.entry_new (K : KeyOk P kt kv ok) (h : MapRel kv vv ok w b L c) (ht : P.underlying t = some (.map kt et)) (z : ν) (hz : ∀ W, (zeroValue et).run P W = .ok (vv z) W) (k : κ) (hk : ok k) (hn : ∀ e ∈ L, e.1 ≠ k) :
    ∃ w1, (Instr.mapEntry t (.map (some b)) (kv k)).run P w = .ok (.tuple #[vv z, .int .i64 (c : Int)]) w1 ∧ w1 = setBlock w b (.map ((L ++ [(k, z, c)]).map (ent kv vv)).toArray (c + 1)) ∧ MapRel kv vv ok w1 b (L ++ [(k, z, c)]) (c + 1) := by
  obtain ⟨l, hl⟩ := K.lit k hk
  rcases h.find K k hk w with ⟨h1, _⟩ | ⟨j, v, s, _, h2⟩
  · refine ⟨_, ?_, rfl, MapRel.set h.lt ?_ ?_ ?_ ?_⟩
    · simp [Instr.mapEntry, run_underlying ht, MapKept.run_getObj_map h.blk, K.law.check w _ hl, h1, hz, MapKept.run_setObj_map _ h.blk, Result.andThen, setBlock, goInt, ent]
    · refine List.pairwise_append.2 ⟨h.keys, List.pairwise_singleton _ _, fun x hx y hy => ?_⟩
      rw [List.mem_singleton.1 hy]
      exact hn x hx
    · intro e he
      rcases List.mem_append.1 he with he | he
      · exact h.oks e he
      · rw [List.mem_singleton.1 he]; exact hk
    · intro e he
      rcases List.mem_append.1 he with he | he
      · have := h.born e he; omega
      · rw [List.mem_singleton.1 he]; exact Nat.lt_succ_self c
    · refine List.pairwise_append.2 ⟨h.stamps, List.pairwise_singleton _ _, fun x hx y hy => ?_⟩
      rw [List.mem_singleton.1 hy]
      have := h.born x hx
      simp only
      omega
  · exact absurd rfl (hn _ (List.mem_of_getElem? h2))
/-- An entry for a key that is there. -/
theorem MapRel.entry_old (K : KeyOk P kt kv ok) (h : MapRel kv vv ok w b L c) (ht : P.underlying t = some (.map kt et)) (k : κ) (hk : ok k) {j : Nat} {v : ν} {s : Nat} (hj : L[j]? = some (k, v, s)) :
    ∃ w1, (Instr.mapEntry t (.map (some b)) (kv k)).run P w = .ok (.tuple #[vv v, .int .i64 (s : Int)]) w1 ∧ w1 = setBlock w b (.map (L.map (ent kv vv)).toArray c) ∧ MapRel kv vv ok w1 b L c := by
  obtain ⟨l, hl⟩ := K.lit k hk
  rcases h.find K k hk w with ⟨_, h2⟩ | ⟨j', v', s', h1, h2⟩
  · exact absurd rfl (h2 _ (List.mem_of_getElem? hj))
  · have hv : v' = v := by
      have := getL_at h.keys h2
      rw [getL_at h.keys hj] at this
      exact (Option.some.inj this).symm
    have hjj : j' = j := by
      have p := h.keys
      rw [List.pairwise_iff_getElem] at p
      obtain ⟨hl1, he1⟩ := List.getElem?_eq_some_iff.1 h2
      obtain ⟨hl2, he2⟩ := List.getElem?_eq_some_iff.1 hj
      rcases Nat.lt_trichotomy j' j with hlt | heq | hgt
      · exact absurd (by rw [he1, he2]) (p j' j hl1 hl2 hlt)
      · exact heq
      · exact absurd (by rw [he1, he2]) (p j j' hl2 hl1 hgt)
    subst hjj
    rw [hj] at h2
    have hss : s' = s := by
      have := Option.some.inj h2
      exact (congrArg (fun x => x.2.2) this).symm
    subst hv
    have hmod : (L.map (ent kv vv)).toArray.modify j' (fun e => { e with key := kv k }) = (L.map (ent kv vv)).toArray := by
      apply Array.ext_getElem?
      intro i
      rw [Array.getElem?_modify]
      by_cases hi : j' = i
      · subst hi
        rw [if_pos rfl]
        simp [hj, ent]
      · rw [if_neg hi]
    have hel : (L.map (ent kv vv)).toArray[j']? = some (ent kv vv (k, v', s)) := by simp [hj]
    refine ⟨_, ?_, rfl, MapRel.set h.lt h.keys h.oks h.born h.stamps⟩
    simp only [Instr.mapEntry, Sem.run_bind, run_underlying ht, MapKept.run_getObj_map h.blk, K.law.check w _ hl, h1, Result.andThen, hel, Option.map_some, Option.getD_some]
    have hst := K.law.stays w hl
    simp only [ent] at hst ⊢
    simp only [hst, hmod, MapKept.run_setObj_map _ h.blk, Sem.run_bind, Sem.run_pure, Result.andThen, setBlock, goInt]
theorem pair_idx {α β : Type} {f : α → β} {l : List α} (h : l.Pairwise (fun p q => f p ≠ f q)) {i j : Nat} {x y : α} (hi : l[i]? = some x) (hj : l[j]? = some y) (he : f x = f y) : i = j := by
  rw [List.pairwise_iff_getElem] at h
  obtain ⟨hl1, he1⟩ := List.getElem?_eq_some_iff.1 hi
  obtain ⟨hl2, he2⟩ := List.getElem?_eq_some_iff.1 hj
  rcases Nat.lt_trichotomy i j with hlt | heq | hgt
  · exact absurd (by rw [he1, he2]; exact he) (h i j hl1 hl2 hlt)
  · exact heq
  · exact absurd (by rw [he1, he2]; exact he.symm) (h j i hl2 hl1 hgt)
theorem pair_set {α β : Type} {f : α → β} {l : List α} (h : l.Pairwise (fun p q => f p ≠ f q)) {j : Nat} {x y : α} (hj : l[j]? = some x) (he : f y = f x) : (l.set j y).Pairwise (fun p q => f p ≠ f q) := by
  have hm : (l.set j y).map f = l.map f := by
    rw [List.map_set, he]
    have : (l.map f)[j]? = some (f x) := by rw [List.getElem?_map, hj]; rfl
    obtain ⟨hl, hx⟩ := List.getElem?_eq_some_iff.1 this
    rw [← hx, List.set_getElem_self]
  have h2 : (l.map f).Pairwise (· ≠ ·) := List.pairwise_map.2 h
  rw [← hm] at h2
  exact List.pairwise_map.1 h2
/-- A store into an entry. -/
theorem MapRel.entry_store (h : MapRel kv vv ok w b L c) {j : Nat} {k : κ} {v : ν} {s : Nat} (hj : L[j]? = some (k, v, s)) (v' : ν) :
    ∃ w1, (Instr.entryStore t (.map (some b)) (.int .i64 (s : Int)) (vv v')).run P w = .ok () w1 ∧ w1 = setBlock w b (.map ((L.set j (k, v', s)).map (ent kv vv)).toArray c) ∧ MapRel kv vv ok w1 b (L.set j (k, v', s)) c := by
  have hjl := (List.getElem?_eq_some_iff.1 hj).1
  have hfi : (L.map (ent kv vv)).toArray.findIdx? (fun e => (e.born : Int) == (s : Int)) = some j := by
    rw [List.findIdx?_toArray, List.findIdx?_eq_some_iff_getElem]
    refine ⟨by simpa using hjl, ?_, ?_⟩
    · have : L[j] = (k, v, s) := (List.getElem?_eq_some_iff.1 hj).2
      simp [ent, this]
    · intro i hi
      have hil : i < L.length := by omega
      simp only [List.getElem_map, ent, beq_iff_eq]
      intro he
      have := pair_idx (f := fun e : κ × ν × Nat => e.2.2) h.stamps (List.getElem?_eq_getElem hil) hj (by simp only; omega)
      omega
  have hmod : (L.map (ent kv vv)).toArray.modify j (fun e => { e with val := vv v' }) = ((L.set j (k, v', s)).map (ent kv vv)).toArray := by
    apply Array.ext_getElem?
    intro i
    rw [Array.getElem?_modify]
    by_cases hi : j = i
    · subst hi
      rw [if_pos rfl]
      have e1 : (L.map (ent kv vv)).toArray[j]? = some (ent kv vv (k, v, s)) := by simp [hj]
      have e2 : ((L.set j (k, v', s)).map (ent kv vv)).toArray[j]? = some (ent kv vv (k, v', s)) := by simp [hjl]
      rw [e1, e2]
      rfl
    · rw [if_neg hi]
      simp [List.getElem?_set_ne hi]
  refine ⟨_, ?_, rfl, MapRel.set h.lt (pair_set (f := fun e : κ × ν × Nat => e.1) h.keys hj rfl) ?_ ?_ (pair_set (f := fun e : κ × ν × Nat => e.2.2) h.stamps hj rfl)⟩
  · simp only [Instr.entryStore, Sem.run_bind, MapKept.run_getObj_map h.blk, asInt, asIntOf, Sem.run_pure, Result.andThen, hfi, hmod, MapKept.run_setObj_map _ h.blk, setBlock]
  · intro e he
    rcases List.mem_or_eq_of_mem_set he with he | he
    · exact h.oks e he
    · rw [he]; exact h.oks (k, v, s) (List.mem_of_getElem? hj)
  · intro e he
    rcases List.mem_or_eq_of_mem_set he with he | he
    · exact h.born e he
    · rw [he]; exact h.born (k, v, s) (List.mem_of_getElem? hj)
theorem filter_erase {α β : Type} [DecidableEq β] {f : α → β} : ∀ {l : List α}, l.Pairwise (fun p q => f p ≠ f q) → ∀ {j : Nat} {x : α}, l[j]? = some x → l.filter (fun e => decide (f e ≠ f x)) = l.eraseIdx j := by
  intro l
  induction l with
  | nil => intro _ j x hj; simp at hj
  | cons e l ih =>
    intro h j x hj
    obtain ⟨h1, h2⟩ := List.pairwise_cons.1 h
    cases j with
    | zero =>
      simp only [List.getElem?_cons_zero, Option.some.injEq] at hj
      subst hj
      rw [List.filter_cons_of_neg (by simp), List.eraseIdx_cons_zero, List.filter_eq_self]
      intro a ha
      simpa using (h1 a ha).symm
    | succ j =>
      simp only [List.getElem?_cons_succ] at hj
      rw [List.filter_cons_of_pos (by simpa using h1 x (List.mem_of_getElem? hj)), List.eraseIdx_cons_succ, ih h2 hj]
/-- delete. -/
theorem MapRel.delete (K : KeyOk P kt kv ok) (h : MapRel kv vv ok w b L c) (ht : P.underlying t = some (.map kt et)) (k : κ) (hk : ok k) (ty : TypeId) :
    ∃ w1, (Builtin.delete_ #[t, kt] ty #[.map (some b), kv k]).run P w = .ok (.tuple #[]) w1 ∧ w1 = setBlock w b (.map ((L.filter (fun e => decide (e.1 ≠ k))).map (ent kv vv)).toArray c) ∧ MapRel kv vv ok w1 b (L.filter (fun e => decide (e.1 ≠ k))) c := by
  obtain ⟨l, hl⟩ := K.lit k hk
  refine ⟨_, ?_, rfl, MapRel.set h.lt (h.keys.sublist List.filter_sublist) (fun e he => h.oks e (List.mem_filter.1 he).1) (fun e he => h.born e (List.mem_filter.1 he).1) (h.stamps.sublist List.filter_sublist)⟩
  rcases h.find K k hk w with ⟨h1, h2⟩ | ⟨j, v, s, h1, h2⟩
  · have hf : L.filter (fun e => decide (e.1 ≠ k)) = L := List.filter_eq_self.2 (fun a ha => by simpa using h2 a ha)
    rw [hf]
    simp [Builtin.delete_, run_underlying ht, MapKept.run_getObj_map h.blk, K.law.check w _ hl, h1, MapKept.run_setObj_map _ h.blk, Result.andThen, setBlock]
  · have hf : L.filter (fun e => decide (e.1 ≠ k)) = L.eraseIdx j := filter_erase (f := fun e : κ × ν × Nat => e.1) h.keys h2
    rw [hf]
    have hjl := (List.getElem?_eq_some_iff.1 h2).1
    have he : (L.map (ent kv vv)).toArray.eraseIdxIfInBounds j = ((L.eraseIdx j).map (ent kv vv)).toArray := by
      unfold Array.eraseIdxIfInBounds
      rw [dif_pos (by simpa using hjl)]
      apply Array.toList_inj.1
      simp [ChangeMaps.map_eraseIdx]
    rw [← he]
    simp [Builtin.delete_, run_underlying ht, MapKept.run_getObj_map h.blk, K.law.check w _ hl, h1, MapKept.run_setObj_map _ h.blk, Result.andThen, setBlock]
end
end Go.Proofs.YtbfhglaaombglaaDoor

/- A set of names that a call makes, as a map. -/
namespace Go.Proofs.YtbfhglaaombglaaDoor
set_option linter.unusedVariables false
set_option linter.unusedSimpArgs false
open Go.RowKit Go.ChangeMaps Go.WideMaps Go.Proofs.YtbfhglaaombglaaDoorW.PrintWords
set_option linter.unusedSectionVars false

section
variable {κ ν : Type} [DecidableEq κ]
theorem getL_not {L : List (κ × ν × Nat)} {k : κ} (h : getL L k = none) : ∀ e ∈ L, e.1 ≠ k := by
  intro e he hk
  rw [getL, Option.map_eq_none_iff, List.find?_eq_none] at h
  exact h e he (by simpa using hk)
theorem getL_some {L : List (κ × ν × Nat)} {k : κ} {v : ν} (h : getL L k = some v) : ∃ (j s : Nat), L[j]? = some (k, v, s) := by
  rw [getL, Option.map_eq_some_iff] at h
  obtain ⟨⟨k', v', s⟩, he, rfl⟩ := h
  obtain ⟨j, hj⟩ := List.getElem?_of_mem (List.mem_of_find?_eq_some he)
  have hk := List.find?_some he
  simp only [decide_eq_true_eq] at hk
  subst hk
  exact ⟨j, s, hj⟩
theorem getL_snoc (L : List (κ × ν × Nat)) (k : κ) (v : ν) (s : Nat) (h : getL L k = none) (k' : κ) : getL (L ++ [(k, v, s)]) k' = if k' = k then some v else getL L k' := by
  by_cases hk : k' = k
  · subst hk
    rw [if_pos rfl]
    rw [getL, Option.map_eq_none_iff] at h
    rw [getL, List.find?_append, h]
    simp
  · rw [if_neg hk, getL, getL, List.find?_append]
    have : [(k, v, s)].find? (fun e => decide (e.1 = k')) = none := by simp [Ne.symm hk]
    rw [this, Option.or_none]
theorem getL_set {L : List (κ × ν × Nat)} {j : Nat} {k : κ} {v v' : ν} {s : Nat} (hk : L.Pairwise (fun p q => p.1 ≠ q.1)) (hj : L[j]? = some (k, v, s)) (k' : κ) : getL (L.set j (k, v', s)) k' = if k' = k then some v' else getL L k' := by
  have hjl := (List.getElem?_eq_some_iff.1 hj).1
  have hk2 := pair_set (f := fun e : κ × ν × Nat => e.1) hk hj (y := (k, v', s)) rfl
  by_cases he : k' = k
  · subst he
    rw [if_pos rfl]
    exact getL_at hk2 (j := j) (s := s) (by rw [List.getElem?_set_self hjl])
  · rw [if_neg he]
    cases hg : getL L k' with
    | none =>
      apply getL_none
      intro e hm
      rcases List.mem_or_eq_of_mem_set hm with hm | hm
      · exact getL_not hg e hm
      · rw [hm]; exact fun h => he h.symm
    | some x =>
      obtain ⟨j', s', hj'⟩ := getL_some hg
      have hne : j ≠ j' := by
        intro e
        subst e
        rw [hj] at hj'
        exact he (congrArg (fun x => x.1) (Option.some.inj hj')).symm
      exact getL_at hk2 (j := j') (s := s') (by rw [List.getElem?_set_ne hne]; exact hj')
variable {P : Program} {kt et t : TypeId} {kv : κ → Value} {vv : ν → Value} {ok : κ → Prop} {w : World} {b c : Nat} {L : List (κ × ν × Nat)}
theorem MapRel.lookup1 (K : KeyOk P kt kv ok) (h : MapRel kv vv ok w b L c) (ht : P.underlying t = some (.map kt et)) {z : Value} (hz : ∀ W, (zeroValue et).run P W = .ok z W) (k : κ) (hk : ok k) :
    (Instr.lookup t (.map (some b)) (kv k) false).run P w = .ok (((getL L k).map vv).getD z) w := by
  obtain ⟨l, hl⟩ := K.lit k hk
  rcases h.find K k hk w with ⟨h1, h2⟩ | ⟨j, v, s, h1, h2⟩
  · rw [getL_none h2]
    simp [Instr.lookup, run_underlying ht, MapKept.run_getObj_map h.blk, K.law.check w _ hl, h1, hz, Result.andThen]
  · rw [getL_at h.keys h2]
    simp [Instr.lookup, run_underlying ht, MapKept.run_getObj_map h.blk, K.law.check w _ hl, h1, Result.andThen]
/-- m[k] = v. -/
theorem MapRel.update (K : KeyOk P kt kv ok) (h : MapRel kv vv ok w b L c) (ht : P.underlying t = some (.map kt et)) (k : κ) (hk : ok k) (v' : ν) :
    ∃ w1 L' c', (Instr.mapUpdate t (.map (some b)) (kv k) (vv v')).run P w = .ok () w1 ∧ w1 = setBlock w b (.map (L'.map (ent kv vv)).toArray c') ∧ MapRel kv vv ok w1 b L' c' ∧ ∀ k', getL L' k' = if k' = k then some v' else getL L k' := by
  obtain ⟨l, hl⟩ := K.lit k hk
  rcases h.find K k hk w with ⟨h1, h2⟩ | ⟨j, v, s, h1, h2⟩
  · refine ⟨_, L ++ [(k, v', c)], c + 1, ?_, rfl, MapRel.set h.lt ?_ ?_ ?_ ?_, getL_snoc L k v' c (getL_none h2)⟩
    · simp [Instr.mapUpdate, run_underlying ht, MapKept.run_getObj_map h.blk, K.law.check w _ hl, h1, MapKept.run_setObj_map _ h.blk, Result.andThen, setBlock, ent]
    · refine List.pairwise_append.2 ⟨h.keys, List.pairwise_singleton _ _, fun x hx y hy => ?_⟩
      rw [List.mem_singleton.1 hy]
      exact h2 x hx
    · intro e he
      rcases List.mem_append.1 he with he | he
      · exact h.oks e he
      · rw [List.mem_singleton.1 he]; exact hk
    · intro e he
      rcases List.mem_append.1 he with he | he
      · have := h.born e he; omega
      · rw [List.mem_singleton.1 he]; exact Nat.lt_succ_self c
    · refine List.pairwise_append.2 ⟨h.stamps, List.pairwise_singleton _ _, fun x hx y hy => ?_⟩
      rw [List.mem_singleton.1 hy]
      have := h.born x hx
      simp only
      omega
  · have hjl := (List.getElem?_eq_some_iff.1 h2).1
    have hel : (L.map (ent kv vv)).toArray[j]? = some (ent kv vv (k, v, s)) := by simp [h2]
    have hmod : (L.map (ent kv vv)).toArray.modify j (fun e => { e with key := kv k, val := vv v' }) = ((L.set j (k, v', s)).map (ent kv vv)).toArray := by
      apply Array.ext_getElem?
      intro i
      rw [Array.getElem?_modify]
      by_cases hi : j = i
      · subst hi
        rw [if_pos rfl, hel]
        simp [hjl, ent]
      · rw [if_neg hi]
        simp [List.getElem?_set_ne hi]
    refine ⟨_, L.set j (k, v', s), c, ?_, rfl, MapRel.set h.lt (pair_set (f := fun e : κ × ν × Nat => e.1) h.keys h2 rfl) ?_ ?_ (pair_set (f := fun e : κ × ν × Nat => e.2.2) h.stamps h2 rfl), getL_set h.keys h2⟩
    · have hst := K.law.stays w hl
      simp only [Instr.mapUpdate, Sem.run_bind, run_underlying ht, MapKept.run_getObj_map h.blk, K.law.check w _ hl, h1, Result.andThen, hel, Option.map_some, Option.getD_some]
      simp only [ent] at hst ⊢
      simp only [hst, MapKept.run_setObj_map _ h.blk, Sem.run_bind, Sem.run_pure, Result.andThen, setBlock]
      trace_state
      rw [hmod]
    · intro e he
      rcases List.mem_or_eq_of_mem_set he with he | he
      · exact h.oks e he
      · rw [he]; exact hk
    · intro e he
      rcases List.mem_or_eq_of_mem_set he with he | he
      · exact h.born e he
      · rw [he]; exact h.born (k, v, s) (List.mem_of_getElem? h2)
end
theorem below_setBlock {B m : Nat} {a w : World} (h : Below B a w) (hm : B ≤ m) (o : Obj) : Below B a (setBlock w m o) :=
  h.trans ⟨rfl, rfl, rfl, by simp [setBlock], fun k hk => by
    simp only [setBlock]
    rw [Array.getElem?_setIfInBounds_ne (by omega)]⟩
instance : DecidableEq ByteArray := fun a b => decidable_of_iff (a.data.toList = b.data.toList) ⟨WideShapes.bytes_inj, fun h => h ▸ rfl⟩
def okS (s : ByteArray) : Prop := s.size ≤ 9223372036854775807
theorem keyS : KeyOk Tryd.prog 9 Value.string okS where
  law := Maps.Keyed.of_law (string_law Tryd.underlying9)
  lit := fun x hx => ⟨_, keyOf_string_mk Tryd.underlying9 (by unfold maxLen; exact hx)⟩
  inj := fun x y h => by simpa using h
end Go.Proofs.YtbfhglaaombglaaDoor

/- A schema's messages, laid in rows of their own; a field's type is written. -/
namespace Go.Proofs.YtbfhglaaombglaaDoor
set_option linter.unusedVariables false
set_option linter.unusedSimpArgs false
open Go.RowKit Go.Proofs.YtbfhglaaombglaaDoorW.PrintWords Go.Proofs.YtbfhglaaombglaaDoorW.PrintMore Go.Proofs.YtbfhglaaombglaaDoor.PIdlParses

abbrev Ms : Type := S45 × Nat × Nat
/-- A message's two rows. -/
structure MsgAt (w : World) (B g i : Nat) (x : Ms) (v1 v2 : Value) : Prop where
  c0 : w.cell? ⟨g, i * 3, none⟩ = some (.string x.1.f0)
  c1 : w.cell? ⟨g, i * 3 + 1, none⟩ = some v1
  c2 : w.cell? ⟨g, i * 3 + 2, none⟩ = some v2
  q1 : k43.Q 43 w B (fun k => x.2.1 ≤ k ∧ k < x.2.2) v1 x.1.f1
  q2 : (Kd.int .i64).Q 3 w B (fun k => x.2.1 ≤ k ∧ k < x.2.2) v2 x.1.f2
structure MsgsAt (w : World) (B g : Nat) (X : List Ms) : Prop where
  blk : ∃ cells, w.heap[g]? = some (.cells cells 45 (0, 0))
  el : ∀ i x, X[i]? = some x → ∃ v1 v2, MsgAt w B g i x v1 v2
/-- What messages are made of stays. -/
def MsgFr (w w1 : World) : Prop := ∀ (k : Nat) (c : Array Value) (t : TypeId), w.heap[k]? = some (.cells c t (0, 0)) → (t = 45 ∨ t = 43 ∨ t = 3) → w1.heap[k]? = some (.cells c t (0, 0))
theorem MsgFr.of_below {w w1 : World} (h : Below w.heap.size w w1) : MsgFr w w1 := fun k c t hk _ => (h.block k (blk_lt hk)).trans hk
theorem cell_same {w w1 : World} {a : Addr} {v : Value} {c : Array Value} {t : TypeId} (hk : w.heap[a.block]? = some (.cells c t (0, 0))) (hk1 : w1.heap[a.block]? = some (.cells c t (0, 0))) (h : w.cell? a = some v) : w1.cell? a = some v := by
  rw [World.cell?_of_block (hk1.trans hk.symm)]; exact h
theorem MsgAt.step {w w1 : World} {B g i : Nat} {x : Ms} {v1 v2 : Value} (h : MsgAt w B g i x v1 v2) (hb : ∃ cells, w.heap[g]? = some (.cells cells 45 (0, 0))) (hf : MsgFr w w1) : MsgAt w1 B g i x v1 v2 := by
  obtain ⟨cells, hc⟩ := hb
  have hc1 := hf g cells _ hc (.inl rfl)
  refine ⟨cell_same hc hc1 h.c0, cell_same hc hc1 h.c1, cell_same hc hc1 h.c2, ?_, ?_⟩
  · refine Kd.Q_mono (Kd.Q_step (w1 := w1) (Kd.Q_bound h.q1) (fun k hk _ => ?_)) (fun _ hk => hk.1)
    obtain ⟨_, _, _, q, hq, c, hc⟩ := hk
    have hq2 : q = 43 := by simpa [show k43.E = [] from rfl] using hq
    subst hq2
    rw [hc]
    exact hf k c _ hc (.inr (.inl rfl))
  · refine Kd.Q_mono (Kd.Q_step (w1 := w1) (Kd.Q_bound h.q2) (fun k hk _ => ?_)) (fun _ hk => hk.1)
    obtain ⟨_, _, _, q, hq, c, hc⟩ := hk
    have hq2 : q = 3 := by simpa [show (Kd.int .i64).E = [] from rfl] using hq
    subst hq2
    rw [hc]
    exact hf k c _ hc (.inr (.inr rfl))
theorem MsgsAt.step {w w1 : World} {B g : Nat} {X : List Ms} (h : MsgsAt w B g X) (hf : MsgFr w w1) : MsgsAt w1 B g X := by
  obtain ⟨cells, hc⟩ := h.blk
  refine ⟨⟨cells, hf g cells _ hc (.inl rfl)⟩, fun i x hx => ?_⟩
  obtain ⟨v1, v2, hm⟩ := h.el i x hx
  exact ⟨v1, v2, hm.step h.blk hf⟩
/-- A row of messages is such. -/
theorem msgs_of_R {w : World} {B : Nat} {A : Option Addr} {n c : Nat} {X : List Ms} (h : kI.R 45 w B (fun _ => True) (.slice A n c) X) (hn : 0 < X.length) : ∃ g, A = some ⟨g, 0, none⟩ ∧ MsgsAt w B g X := by
  obtain ⟨A', c', he, hl, hC⟩ := Kd.R_reads h
  injection he with e1 e2 e3
  subst e1 e2 e3
  obtain ⟨ad, had, _⟩ := hC.2.2 hn
  subst had
  obtain ⟨g, rfl⟩ := Kd.R_head h
  obtain ⟨inner, ho⟩ := Kd.R_own h
  refine ⟨g, rfl, own_typed ho g rfl, fun i x hx => ?_⟩
  have hil := (List.getElem?_eq_some_iff.1 hx).1
  obtain ⟨cs, _, hM, hcc⟩ := Kd.R_get h (⟨⟨ByteArray.empty, [], []⟩, 0, 0⟩ : Ms) (i : Int) (by omega) (by omega)
  rw [Int.toNat_natCast, List.getD_eq_getElem?_getD, hx, Option.getD_some] at hM
  have hM2 : k45.M w B (fun k => (True ∧ some k ≠ (Value.slice (some (⟨g, 0, none⟩ : Addr)) X.length c).ownBlock) ∧ x.2.1 ≤ k ∧ k < x.2.2) x.1 cs := hM
  obtain ⟨v1, v2, rfl, h1, h2⟩ := k45_openM hM2
  rw [Int.toNat_natCast] at hcc
  have a0 := hcc 0 _ rfl
  have a1 := hcc 1 _ rfl
  have a2 := hcc 2 _ rfl
  rw [add_at, Nat.zero_add] at a0 a1 a2
  exact ⟨v1, v2, a0, a1, a2, Kd.Q_of_R (Kd.R_mono h1 (fun _ hk => hk.2)), Kd.Q_of_R (Kd.R_mono h2 (fun _ hk => hk.2))⟩
/-- A field's type, written. -/
def putK (f : S43) (k : Int) : S43 := ⟨f.f0, f.f1, f.f2, ⟨k, f.f3.f1⟩⟩
theorem MsgsAt.put {w : World} {B g : Nat} {X : List Ms} (h : MsgsAt w B g X) (hap : X.Pairwise (fun a b => a.2.2 ≤ b.2.1)) {i : Nat} {x : Ms} (hx : X[i]? = some x) {v2 : Value} {gf o n c : Nat} (hm : MsgAt w B g i x (.slice (some ⟨gf, o, none⟩) n c) v2) {j : Nat} {f : S43} (hj : x.1.f1[j]? = some f) (k : Int) :
    MsgsAt (w.setCell ⟨gf, o + j * 5 + 3, none⟩ (.int .i64 k)) B g (X.set i (⟨x.1.f0, x.1.f1.set j (putK f k), x.1.f2⟩, x.2.1, x.2.2)) ∧ MsgAt (w.setCell ⟨gf, o + j * 5 + 3, none⟩ (.int .i64 k)) B g i (⟨x.1.f0, x.1.f1.set j (putK f k), x.1.f2⟩, x.2.1, x.2.2) (.slice (some ⟨gf, o, none⟩) n c) v2 := by
  obtain ⟨hn, hnc, _⟩ := Kd.Q_reads' hm.q1
  have hjl := (List.getElem?_eq_some_iff.1 hj).1
  have hgf : x.2.1 ≤ gf ∧ gf < x.2.2 := hm.q1.1 gf rfl
  obtain ⟨cf, hcf⟩ := Kd.Q_typed hm.q1 gf rfl
  obtain ⟨cells, hcells⟩ := h.blk
  have hne : g ≠ gf := blk_ne hcells hcf (by decide)
  have hil := (List.getElem?_eq_some_iff.1 hx).1
  have hfar : ∀ k', k' ≠ gf → (w.setCell ⟨gf, o + j * 5 + 3, none⟩ (.int .i64 k)).heap[k']? = w.heap[k']? := fun k' hk' => Below.heap_setCell _ _ _ _ hk'
  have hcell : ∀ a u, w.cell? ⟨g, a, none⟩ = some u → (w.setCell ⟨gf, o + j * 5 + 3, none⟩ (.int .i64 k)).cell? ⟨g, a, none⟩ = some u := fun a u hu => cell_same hcells ((hfar g hne).trans hcells) hu
  have hself : MsgAt (w.setCell ⟨gf, o + j * 5 + 3, none⟩ (.int .i64 k)) B g i (⟨x.1.f0, x.1.f1.set j (putK f k), x.1.f2⟩, x.2.1, x.2.2) (.slice (some ⟨gf, o, none⟩) n c) v2 := by
    refine ⟨hcell _ _ hm.c0, hcell _ _ hm.c1, hcell _ _ hm.c2, ?_, ?_⟩
    · obtain ⟨cs, hcs, hM, hcc, _⟩ := Kd.Q_elem hm.q1 f (j : Int) (by omega) (by omega)
      rw [Int.toNat_natCast, List.getD_eq_getElem?_getD, hj, Option.getD_some] at hM
      have hcs2 := k43_openM hM
      subst hcs2
      have h9 := (Kd.Q_seg (okp := fun _ => False) (x' := putK f k) hm.q1 (j : Int) (by omega) (by omega) (seg := [.int .i64 k]) (j := 3) hcs hcc (show 3 + 1 ≤ 5 by decide) (k43_mkM _ _ _ (putK f k)) (fun _ h => h.elim)).1
      rw [Int.toNat_natCast] at h9
      exact h9
    · refine Kd.Q_mono (Kd.Q_step (Kd.Q_bound hm.q2) (fun k' hk' _ => ?_)) (fun _ hk => hk.1)
      obtain ⟨_, _, _, q, hq, c9, hc9⟩ := hk'
      have hq2 : q = 3 := by simpa [show (Kd.int .i64).E = [] from rfl] using hq
      subst hq2
      exact hfar k' (blk_ne hc9 hcf (by decide))
  refine ⟨⟨⟨cells, (hfar g hne).trans hcells⟩, fun i' x' hx' => ?_⟩, hself⟩
  by_cases hi : i = i'
  · subst hi
    rw [List.getElem?_set_self hil] at hx'
    cases hx'
    exact ⟨_, v2, hself⟩
  · rw [List.getElem?_set_ne hi] at hx'
    obtain ⟨u1, u2, hm'⟩ := h.el i' x' hx'
    have hdis : ¬ (x'.2.1 ≤ gf ∧ gf < x'.2.2) := by
      rw [List.pairwise_iff_getElem] at hap
      obtain ⟨hl1, he1⟩ := List.getElem?_eq_some_iff.1 hx
      obtain ⟨hl2, he2⟩ := List.getElem?_eq_some_iff.1 hx'
      rcases Nat.lt_or_gt_of_ne hi with hlt | hlt
      · have h9 := hap i i' hl1 hl2 hlt
        rw [he1, he2] at h9
        omega
      · have h9 := hap i' i hl2 hl1 hlt
        rw [he1, he2] at h9
        omega
    refine ⟨u1, u2, hcell _ _ hm'.c0, hcell _ _ hm'.c1, hcell _ _ hm'.c2, ?_, ?_⟩
    · exact Kd.Q_step hm'.q1 (fun k' hk' _ => hfar k' (fun e => hdis (e ▸ hk')))
    · exact Kd.Q_step hm'.q2 (fun k' hk' _ => hfar k' (fun e => hdis (e ▸ hk')))
/-- Read. -/
theorem MsgsAt.reads {w : World} {B g : Nat} {X : List Ms} (h : MsgsAt w B g X) (hX : X.length ≤ 9223372036854775807) : k45.C w (some ⟨g, 0, none⟩) (X.map (·.1)).length (X.map (·.1)) := by
  refine ⟨rfl, by rw [List.length_map]; exact hX, fun _ => ⟨_, rfl, fun j p hj => ?_⟩⟩
  rw [List.getElem?_map] at hj
  obtain ⟨x, hx, rfl⟩ := Option.map_eq_some_iff.1 hj
  obtain ⟨v1, v2, hm⟩ := h.el j x hx
  obtain ⟨A1, c1, rfl, _⟩ := Kd.Q_slice hm.q1
  obtain ⟨A2, c2, rfl, _⟩ := Kd.Q_slice hm.q2
  obtain ⟨_, l1, r1⟩ := Kd.Q_reads' hm.q1
  obtain ⟨_, l2, r2⟩ := Kd.Q_reads' hm.q2
  refine ⟨_, rfl, k45_mk w x.1 l1 r1 l2 r2, fun i u hu => ?_⟩
  have hi : i < 3 := (List.getElem?_eq_some_iff.1 hu).1
  rw [add_at, Nat.zero_add]
  rcases i with _ | _ | _ | i
  · cases hu; exact hm.c0
  · cases hu; exact hm.c1
  · cases hu; exact hm.c2
  · omega
end Go.Proofs.YtbfhglaaombglaaDoor
