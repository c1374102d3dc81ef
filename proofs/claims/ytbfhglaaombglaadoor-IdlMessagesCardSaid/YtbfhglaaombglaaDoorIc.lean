/- Texts laid together by a program of this claim's, without the theorems that it does not use. -/
import Derived.Test.YtbfhglaaombglaaDoorIb
import Derived.WalkKit
import Derived.ProofKit
import Derived.Maps.Keyed
import Derived.Test.YtbfhglaaombglaaDoorProg
import Derived.Test.YtbfhglaaombglaaDoorIw
import Derived.StringKeys
import Derived.Test.YtbfhglaaombglaaDoorIp
section
namespace Go.Proofs.YtbfhglaaombglaaDoor
set_option linter.unusedVariables false
set_option linter.unusedSimpArgs false
open Go.RowKit Go.Proofs.YtbfhglaaombglaaDoorW.PrintWords Go.Proofs.YtbfhglaaombglaaDoor.PIdlParses
theorem Kd.M_lower_ {α : Type} {d : Kd α} {w : World} {base base' : Nat} {ok : Nat → Prop} {x : α} {cs : List Value} (h : d.M w base ok x cs) (hb : base' ≤ base) : d.M w base' ok x cs := d.M_lower hb h
/-- A message and where its rows lie. -/
def kI : Kd (S45 × Nat × Nat) where
  sz := k45.sz
  E := k45.E
  K := fun w x cs => k45.K w x.1 cs
  M := fun w base ok x cs => k45.M w base (fun k => ok k ∧ x.2.1 ≤ k ∧ k < x.2.2) x.1 cs
  K_len := fun h => k45.K_len h
  K_one := fun h => k45.K_one h
  K_below := fun hb h => k45.K_below hb h
  K_of_M := fun h => k45.K_of_M h
  M_mono := fun hok h => k45.M_mono (fun k hk => ⟨hok k hk.1, hk.2⟩) h
  M_bound := fun h => k45.M_mono (fun k hk => ⟨⟨hk.1.1, hk.2⟩, hk.1.2⟩) (k45.M_bound h)
  M_move := fun hm h => k45.M_move (fun k hk => hm k hk.1) h
  M_lower := fun hb h => k45.M_lower hb h
theorem kI_mk {w : World} {base lo hi : Nat} {x : S45} {cs : List Value} (h : k45.M w base (fun k => lo ≤ k ∧ k < hi) x cs) : kI.M w base (fun k => lo ≤ k) (x, lo, hi) cs :=
  k45.M_mono (fun k hk => ⟨hk.1, hk.1, hk.2⟩) h
/-- What has been read of a schema. -/
structure ScRel (x : Sc) (nm : ByteArray) (xm : List (S45 × Nat × Nat)) (xe : List S68) (xt : List S72) (n : Nat) : Prop where
  nam : x.name = nm
  ms : xm.map (·.1) = x.msgs.map gS
  es : xe = x.enums.map eS
  ts : xt = x.meths.map mS
  ap : xm.Pairwise (fun a b => a.2.2 ≤ b.2.1)
  le : ∀ a ∈ xm, a.2.2 ≤ n
theorem ScRel.more {x : Sc} {nm : ByteArray} {xm : List (S45 × Nat × Nat)} {xe : List S68} {xt : List S72} {n n' : Nat} (h : ScRel x nm xm xe xt n) (hn : n ≤ n') : ScRel x nm xm xe xt n' :=
  ⟨h.nam, h.ms, h.es, h.ts, h.ap, fun a ha => Nat.le_trans (h.le a ha) hn⟩
theorem ScRel.addM {x : Sc} {nm : ByteArray} {xm : List (S45 × Nat × Nat)} {xe : List S68} {xt : List S72} {n n' : Nat} (h : ScRel x nm xm xe xt n) (m : Mg) (lo hi : Nat) (h1 : n ≤ lo) (h2 : hi ≤ n') (h3 : n ≤ n') :
    ScRel { x with msgs := x.msgs ++ [m] } nm (xm ++ [(gS m, lo, hi)]) xe xt n' :=
  ⟨h.nam, by rw [List.map_append, List.map_append, h.ms]; rfl, h.es, h.ts, List.pairwise_append.2 ⟨h.ap, List.pairwise_singleton _ _, fun a ha b hb => by rw [List.mem_singleton.1 hb]; exact Nat.le_trans (h.le a ha) h1⟩, fun a ha => by
    rcases List.mem_append.1 ha with ha | ha
    · exact Nat.le_trans (h.le a ha) h3
    · rw [List.mem_singleton.1 ha]; exact h2⟩
theorem ScRel.addE {x : Sc} {nm : ByteArray} {xm : List (S45 × Nat × Nat)} {xe : List S68} {xt : List S72} {n n' : Nat} (h : ScRel x nm xm xe xt n) (m : En) (h3 : n ≤ n') : ScRel { x with enums := x.enums ++ [m] } nm xm (xe ++ [eS m]) xt n' :=
  ⟨h.nam, h.ms, by rw [List.map_append, ← h.es]; rfl, h.ts, h.ap, fun a ha => Nat.le_trans (h.le a ha) h3⟩
theorem ScRel.addT {x : Sc} {nm : ByteArray} {xm : List (S45 × Nat × Nat)} {xe : List S68} {xt : List S72} {n n' : Nat} (h : ScRel x nm xm xe xt n) (m : Mt) (h3 : n ≤ n') : ScRel { x with meths := x.meths ++ [m] } nm xm xe (xt ++ [mS m]) n' :=
  ⟨h.nam, h.ms, h.es, by rw [List.map_append, ← h.ts]; rfl, h.ap, fun a ha => Nat.le_trans (h.le a ha) h3⟩
theorem message_any2 (w0 w : World) (p : Nat) (st : St) (H : Aside0 (PS w0 w p st)) (m : Mg) (hm : Aside0 (messV st = m)) (s2 : St) (hs : Aside0 (messM st = s2)) :
    Calls Tryd.prog 35 #[.pointer (some ⟨p, 0, none⟩)] w fun e w' => ∃ A1 n1 c1 A2 n2 c2, e = .returned (.agg #[.string m.name, .slice A1 n1 c1, .slice A2 n2 c2]) ∧ Aside0 (k45.M w' w.heap.size (fun k => w.heap.size ≤ k ∧ k < w'.heap.size) (gS m) [.string m.name, .slice A1 n1 c1, .slice A2 n2 c2]) ∧ Aside0 (PS w0 w' p s2) ∧ Aside0 (w.grownBy w' (some p)) := by
  refine (message_any w0 w p st H).mono ?_
  rintro e w' ⟨vF, vN, rfl, h1, h2, h3, h4⟩
  rw [hm.out] at h1 h2 ⊢
  rw [hs.out] at h3
  obtain ⟨A1, c1, rfl⟩ := Kd.R_slice h1.out
  obtain ⟨A2, c2, rfl⟩ := Kd.R_slice h2.out
  exact ⟨A1, _, c1, A2, _, c2, rfl, ⟨k45_mkM _ _ _ (gS m) (Kd.R_mono (Kd.R_bound h1.out) (fun k hk => ⟨hk.2.1, hk.2.2.1⟩)) (Kd.R_mono (Kd.R_bound h2.out) (fun k hk => ⟨hk.2.1, hk.2.2.1⟩))⟩, h3, h4⟩
theorem enum_any2 (w0 w : World) (p : Nat) (st : St) (H : Aside0 (PS w0 w p st)) (m : En) (hm : Aside0 (enumV st = m)) (s2 : St) (hs : Aside0 (enumM st = s2)) :
    Calls Tryd.prog 36 #[.pointer (some ⟨p, 0, none⟩)] w fun e w' => ∃ A1 n1 c1, e = .returned (.agg #[.string m.name, .slice A1 n1 c1]) ∧ Aside0 (k68.M w' w.heap.size (fun k => w.heap.size ≤ k) (eS m) [.string m.name, .slice A1 n1 c1]) ∧ Aside0 (PS w0 w' p s2) ∧ Aside0 (w.grownBy w' (some p)) := by
  refine (enum_any w0 w p st H).mono ?_
  rintro e w' ⟨vV, rfl, h1, h3, h4⟩
  rw [hm.out] at h1 ⊢
  rw [hs.out] at h3
  obtain ⟨A1, c1, rfl⟩ := Kd.R_slice h1.out
  exact ⟨A1, _, c1, rfl, ⟨k68_mkM _ _ _ (eS m) (Kd.R_mono (Kd.R_bound h1.out) (fun k hk => hk.2.1))⟩, h3, h4⟩
theorem call_any2 (w0 w : World) (p : Nat) (st : St) (H : Aside0 (PS w0 w p st)) (m : Mt) (hm : Aside0 (callV st = m)) (s2 : St) (hs : Aside0 (callM st = s2)) :
    Calls Tryd.prog 37 #[.pointer (some ⟨p, 0, none⟩)] w fun e w' => e = .returned (.agg #[.string m.name, .string m.inn, .string m.out]) ∧ Aside0 (PS w0 w' p s2) ∧ Aside0 (w.grownBy w' (some p)) := by
  have h := call_any w0 w p st H
  rw [hm.out, hs.out] at h
  exact h
/-- What is told of a schema's rows. -/
structure ScRows (x : Sc) (xm : List (S45 × Nat × Nat)) (xe : List S68) (xt : List S72) : Prop where
  ms : xm.map (·.1) = x.msgs.map gS
  es : xe = x.enums.map eS
  ts : xt = x.meths.map mS
  ap : xm.Pairwise (fun a b => a.2.2 ≤ b.2.1)
set_option maxRecDepth 100000 in
set_option maxHeartbeats 8000000 in
theorem schema_any (w0 w : World) (p : Nat) (st : St) (H : Aside0 (PS w0 w p st)) (X : Sc) (S6 : St) (hX : Aside0 (schemaS st = (X, S6))) :
    Calls Tryd.prog 16 #[.pointer (some ⟨p, 0, none⟩)] w fun e w' => ∃ Am cm Ae ce At ct xm xe xt, e = .returned (.agg #[.string X.name, .slice Am (List.length xm) cm, .slice Ae (List.length xe) ce, .slice At (List.length xt) ct]) ∧ Aside0 (ScRows X xm xe xt) ∧ Aside0 (kI.R 45 w' w.heap.size (fun _ => True) (.slice Am (List.length xm) cm) xm) ∧ Aside0 (k68.R 68 w' w.heap.size (fun _ => True) (.slice Ae (List.length xe) ce) xe) ∧ Aside0 (k72.R 72 w' w.heap.size (fun _ => True) (.slice At (List.length xt) ct) xt) ∧ Aside0 (PS w0 w' p S6) ∧ Aside0 (w.grownBy w' (some p)) := by
  have hmu0 : mu (need c_semi (nameM (need w_schema st))) ≤ 20001 := by
    have h0 := mu_need w_schema st
    have h1 := mu_name (need w_schema st)
    have h2 := mu_need c_semi (nameM (need w_schema st))
    have h3 : mu st ≤ 20001 := by have := H.out.len; unfold mu; split <;> omega
    omega
  obtain ⟨s0, hs0⟩ : ∃ s, need w_schema st = s := ⟨_, rfl⟩
  obtain ⟨s1, hs1⟩ : ∃ s, nameM s0 = s := ⟨_, rfl⟩
  obtain ⟨s2, hs2⟩ : ∃ s, need c_semi s1 = s := ⟨_, rfl⟩
  obtain ⟨nm, hnm⟩ : ∃ x, nameV s0 = x := ⟨_, rfl⟩
  rw [hs0, hs1, hs2] at hmu0
  have HE0 : Aside0 (declA ⟨nm, [], [], []⟩ s2 = (X, S6)) := ⟨by rw [← hX.out, schemaS, hs0, hs1, hs2, hnm]⟩
  have As0 := Aside0.mk hs0
  have As1 := Aside0.mk hs1
  have As2 := Aside0.mk hs2
  have Anm := Aside0.mk hnm
  clear hs0 hs1 hs2 hnm hX
  have HLT := Aside0.mk H.out.lt
  go_enter Tryd.func16, Tryd.ntmps16
  go_upto_region 1 with fail
  change Code.wp _ _ _ _ (w.alloc (.cells #[.string ⟨#[]⟩, .slice none 0 0, .slice none 0 0, .slice none 0 0] 27))
  have hbel : Below w.heap.size w (w.alloc (.cells #[.string ⟨#[]⟩, .slice none 0 0, .slice none 0 0, .slice none 0 0] 27)) := ((Below.refl w.heap.size w).alloc (Nat.le_refl _) _)
  have hgR : (w.alloc (.cells #[.string ⟨#[]⟩, .slice none 0 0, .slice none 0 0, .slice none 0 0] 27)).heap[w.heap.size]? = some (.cells #[.string ⟨#[]⟩, .slice none 0 0, .slice none 0 0, .slice none 0 0] 27 (0, 0)) := by
    have h9 := heap_alloc_new w (.cells #[.string ⟨#[]⟩, .slice none 0 0, .slice none 0 0, .slice none 0 0] 27)
    exact h9
  obtain ⟨gR, hggR⟩ : ∃ g, w.heap.size = g := ⟨_, rfl⟩
  have hps := H.out.below hbel
  obtain ⟨w1, hw9⟩ : ∃ x, (w.alloc (.cells #[.string ⟨#[]⟩, .slice none 0 0, .slice none 0 0, .slice none 0 0] 27)) = x := ⟨_, rfl⟩
  rw [hggR, hw9] at hgR
  rw [hw9] at hps hbel ⊢
  have HPw1 := Aside0.mk hps
  have HBw1 := Aside0.mk (below_grownBy hbel (some p))
  have HgRw1 := Aside0.mk hgR
  have HLgR : Aside0 (w.heap.size ≤ gR) := ⟨by omega⟩
  have HNgR : Aside0 (gR ≠ p) := ⟨by have := HLT.out; omega⟩
  have HWgR : Aside0 (w0.heap.size ≤ gR) := ⟨Nat.le_trans H.out.bel.size HLgR.out⟩
  simp only [hggR]
  clear hw9 hps hbel hggR hgR
  go_wp2_with fail
  refine (needs_lit w0 w1 p st HPw1 [w_schema] (by decide) s0 ⟨As0.out⟩ _ rfl 1 rfl).mono ?_
  rintro e w2 ⟨rfl, HPw2, hb9⟩
  have HBw2 := Aside0.mk (HBw1.out.trans hb9.out)
  have HgRw2 := Aside0.mk (grown_block hb9.out HgRw1.out HNgR.out)
  clear hb9 HPw1 HBw1 HgRw1
  go_wp2_with fail
  refine (pname_any w0 w2 p s0 HPw2 nm Anm s1 As1).mono ?_
  rintro e w3 ⟨rfl, HPw3, hb9⟩
  have HBw3 := Aside0.mk (HBw2.out.trans hb9.out)
  have HgRw3 := Aside0.mk (grown_block hb9.out HgRw2.out HNgR.out)
  clear hb9 HPw2 HBw2 HgRw2
  go_upto_region 3 with fail
  change Code.wp _ _ _ _ (w3.alloc (.cells #[.string nm, .slice none 0 0, .slice none 0 0, .slice none 0 0] 27))
  have hbel : Below w3.heap.size w3 (w3.alloc (.cells #[.string nm, .slice none 0 0, .slice none 0 0, .slice none 0 0] 27)) := (Below.refl _ _).alloc (Nat.le_refl _) _
  have hk9 := heap_alloc_new w3 (.cells #[.string nm, .slice none 0 0, .slice none 0 0, .slice none 0 0] 27)
  have hps := HPw3.out.below hbel
  have hb9 := HBw3.out.trans (below_grownBy hbel (some p))
  have hkgR := (hbel.block _ (blk_lt HgRw3.out)).trans HgRw3.out
  obtain ⟨gX, hggX⟩ : ∃ g, w3.heap.size = g := ⟨_, rfl⟩
  have HLgX : Aside0 (w.heap.size ≤ gX) := ⟨by rw [← hggX]; exact HBw3.out.size⟩
  have HNgX : Aside0 (gX ≠ p) := ⟨by rw [← hggX]; exact fun e => by have := HPw3.out.lt; omega⟩
  have HWgX : Aside0 (w0.heap.size ≤ gX) := ⟨by rw [← hggX]; exact HPw3.out.bel.size⟩
  have HDgRgX : Aside0 (gR ≠ gX) := ⟨by rw [← hggX]; exact fun e => by have := blk_lt HgRw3.out; omega⟩
  obtain ⟨w4, hw9⟩ : ∃ x, w3.alloc (.cells #[.string nm, .slice none 0 0, .slice none 0 0, .slice none 0 0] 27) = x := ⟨_, rfl⟩
  rw [hggX] at hk9
  rw [hw9] at hps hb9 hk9 hkgR ⊢
  have HPw4 := Aside0.mk hps
  have HBw4 := Aside0.mk hb9
  have HgXw4 := Aside0.mk hk9
  have HgRw4 := Aside0.mk hkgR
  simp only [hggX]
  clear hw9 hps hb9 hk9 hbel hggX hkgR HPw3 HBw3 HgRw3
  go_wp2_with fail
  refine (needs_lit w0 w4 p s1 HPw4 [c_semi] (by decide) s2 ⟨As2.out⟩ _ rfl 1 rfl).mono ?_
  rintro e w5 ⟨rfl, HPw5, hb9⟩
  have HBw5 := Aside0.mk (HBw4.out.trans hb9.out)
  have HgRw5 := Aside0.mk (grown_block hb9.out HgRw4.out HNgR.out)
  have HgXw5 := Aside0.mk (grown_block hb9.out HgXw4.out HNgX.out)
  clear hb9 HPw4 HBw4 HgRw4 HgXw4
  go_wp2_with fail
  go_loopw [] (fun wr => ∃ (x : Sc) (xm : List (S45 × Nat × Nat)) (xe : List S68) (xt : List S72) (s : St) (Am : Option Addr) (cm : Nat) (Ae : Option Addr) (ce : Nat) (At : Option Addr) (ct : Nat), Aside0 (ScRel x nm xm xe xt wr.heap.size) ∧ Aside0 (declA x s = (X, S6)) ∧ xm.length + mu s ≤ 20001 ∧ xe.length + mu s ≤ 20001 ∧ xt.length + mu s ≤ 20001 ∧ Aside0 (PS w0 wr p s) ∧ Aside0 (w.grownBy wr (some p)) ∧ Aside0 (wr.heap[gR]? = some (.cells #[.string ⟨#[]⟩, .slice none 0 0, .slice none 0 0, .slice none 0 0] 27 (0, 0))) ∧ Aside0 (wr.heap[gX]? = some (.cells #[.string nm, .slice Am xm.length cm, .slice Ae xe.length ce, .slice At xt.length ct] 27 (0, 0))) ∧ Aside0 (kI.R 45 wr w.heap.size (fun _ => True) (.slice Am xm.length cm) (xm)) ∧ Aside0 (k68.R 68 wr w.heap.size (fun _ => True) (.slice Ae xe.length ce) (xe)) ∧ Aside0 (k72.R 72 wr w.heap.size (fun _ => True) (.slice At xt.length ct) (xt))) (fun wr => muW wr p)
  case atStart => exact ⟨⟨nm, [], [], []⟩, [], [], [], s2, none, 0, none, 0, none, 0, ⟨⟨rfl, rfl, rfl, rfl, List.Pairwise.nil, by simp⟩⟩, HE0, by simpa using hmu0, by simpa using hmu0, by simpa using hmu0, HPw5, HBw5, HgRw5, HgXw5, ⟨Kd.R_nil _ _ _ _ _⟩, ⟨Kd.R_nil _ _ _ _ _⟩, ⟨Kd.R_nil _ _ _ _ _⟩⟩
  case round =>
    clear HE0 hmu0 HPw5 HBw5 HgRw5 HgXw5
    obtain ⟨x, xm, xe, xt, s, Am, cm, Ae, ce, At, ct, HSR, HD, hlm, hle, hlt, HPwr, HBwr, HgRwr, HgXwr, HMwr, HEwr, HTwr⟩ := hrel
    obtain ⟨wo, hwo⟩ : ∃ x, x = wr := ⟨_, rfl⟩
    subst hwo
    have HPwo := HPwr
    have HBwo := HBwr
    have HgRwo := HgRwr
    have HgXwo := HgXwr
    have HMwo := HMwr
    have HEwo := HEwr
    have HTwo := HTwr
    clear HPwr HBwr HgRwr HgXwr HMwr HEwr HTwr
    have HZwo : Aside0 (wo.heap.size ≤ wo.heap.size) := ⟨Nat.le_refl _⟩
    have HMU := Aside0.mk HPwo.out.mu
    cases hb : s.2 with
    | true =>
      obtain ⟨u9, hk9⟩ := HPwo.out.wrong
      have c1 : wo.cell? ⟨p, 1, none⟩ = some (.bool s.2) := blk_cell hk9 1
      clear hk9
      rw [hb] at c1
      have hE2 := HD.out
      rw [declA_done x s (.inl hb)] at hE2
      obtain ⟨rfl, rfl⟩ := Prod.mk.inj hE2
      clear hE2 hb
      have HEND := Aside0.mk HSR.out
      have zgX0 : wo.cell? ⟨gX, 0, none⟩ = some (.string nm) := blk_cell HgXwo.out 0
      have zgX1 : wo.cell? ⟨gX, 1, none⟩ = some (.slice Am xm.length cm) := blk_cell HgXwo.out 1
      have zgX2 : wo.cell? ⟨gX, 2, none⟩ = some (.slice Ae xe.length ce) := blk_cell HgXwo.out 2
      have zgX3 : wo.cell? ⟨gX, 3, none⟩ = some (.slice At xt.length ct) := blk_cell HgXwo.out 3
      have zgR0 : wo.cell? ⟨gR, 0, none⟩ = some (.string ⟨#[]⟩) := blk_cell HgRwo.out 0
      have zgR1 : wo.cell? ⟨gR, 1, none⟩ = some (.slice none 0 0) := blk_cell HgRwo.out 1
      have zgR2 : wo.cell? ⟨gR, 2, none⟩ = some (.slice none 0 0) := blk_cell HgRwo.out 2
      have zgR3 : wo.cell? ⟨gR, 3, none⟩ = some (.slice none 0 0) := blk_cell HgRwo.out 3
      have hfzgR := fun i => blk_frozen HgRwo.out i
      go_wp2_with fail
      change bodyPost _ _ _ _ _ ((((wo.setCell ⟨gR, 0, none⟩ (.string nm)).setCell ⟨gR, 1, none⟩ (.slice Am xm.length cm)).setCell ⟨gR, 2, none⟩ (.slice Ae xe.length ce)).setCell ⟨gR, 3, none⟩ (.slice At xt.length ct))
      have hps := ((((HPwo.out.far HNgR.out HWgR.out 0 (.string nm)).far HNgR.out HWgR.out 1 (.slice Am xm.length cm)).far HNgR.out HWgR.out 2 (.slice Ae xe.length ce)).far HNgR.out HWgR.out 3 (.slice At xt.length ct))
      have hb9 := (grown_far (grown_far (grown_far (grown_far HBwo.out HLgR.out 0 (.string nm)) HLgR.out 1 (.slice Am xm.length cm)) HLgR.out 2 (.slice Ae xe.length ce)) HLgR.out 3 (.slice At xt.length ct))
      have hk9 := (blk_set (blk_set (blk_set (blk_set HgRwo.out 0 (.string nm)) 1 (.slice Am xm.length cm)) 2 (.slice Ae xe.length ce)) 3 (.slice At xt.length ct))
      simp only [List.setIfInBounds_toArray, List.set_cons_zero, List.set_cons_succ] at hk9
      have hkgX := (blk_far (blk_far (blk_far (blk_far HgXwo.out (p := ⟨gR, 0, none⟩) (fun e => HDgRgX.out e.symm) (.string nm)) (p := ⟨gR, 1, none⟩) (fun e => HDgRgX.out e.symm) (.slice Am xm.length cm)) (p := ⟨gR, 2, none⟩) (fun e => HDgRgX.out e.symm) (.slice Ae xe.length ce)) (p := ⟨gR, 3, none⟩) (fun e => HDgRgX.out e.symm) (.slice At xt.length ct))
      have hrM := (row_far (row_far (row_far (row_far HMwo.out HgRwo.out (by decide) 0 (.string nm)) (blk_set HgRwo.out 0 (.string nm)) (by decide) 1 (.slice Am xm.length cm)) (blk_set (blk_set HgRwo.out 0 (.string nm)) 1 (.slice Am xm.length cm)) (by decide) 2 (.slice Ae xe.length ce)) (blk_set (blk_set (blk_set HgRwo.out 0 (.string nm)) 1 (.slice Am xm.length cm)) 2 (.slice Ae xe.length ce)) (by decide) 3 (.slice At xt.length ct))
      have hrE := (row_far (row_far (row_far (row_far HEwo.out HgRwo.out (by decide) 0 (.string nm)) (blk_set HgRwo.out 0 (.string nm)) (by decide) 1 (.slice Am xm.length cm)) (blk_set (blk_set HgRwo.out 0 (.string nm)) 1 (.slice Am xm.length cm)) (by decide) 2 (.slice Ae xe.length ce)) (blk_set (blk_set (blk_set HgRwo.out 0 (.string nm)) 1 (.slice Am xm.length cm)) 2 (.slice Ae xe.length ce)) (by decide) 3 (.slice At xt.length ct))
      have hrT := (row_far (row_far (row_far (row_far HTwo.out HgRwo.out (by decide) 0 (.string nm)) (blk_set HgRwo.out 0 (.string nm)) (by decide) 1 (.slice Am xm.length cm)) (blk_set (blk_set HgRwo.out 0 (.string nm)) 1 (.slice Am xm.length cm)) (by decide) 2 (.slice Ae xe.length ce)) (blk_set (blk_set (blk_set HgRwo.out 0 (.string nm)) 1 (.slice Am xm.length cm)) 2 (.slice Ae xe.length ce)) (by decide) 3 (.slice At xt.length ct))
      obtain ⟨w6, hw9⟩ : ∃ x, ((((wo.setCell ⟨gR, 0, none⟩ (.string nm)).setCell ⟨gR, 1, none⟩ (.slice Am xm.length cm)).setCell ⟨gR, 2, none⟩ (.slice Ae xe.length ce)).setCell ⟨gR, 3, none⟩ (.slice At xt.length ct)) = x := ⟨_, rfl⟩
      rw [hw9] at hps hb9 hk9 hkgX hrM hrE hrT ⊢
      have HPw6 := Aside0.mk hps
      have HBw6 := Aside0.mk hb9
      have HgRw6 := Aside0.mk hk9
      have HgXw6 := Aside0.mk hkgX
      have HMw6 := Aside0.mk hrM
      have HEw6 := Aside0.mk hrE
      have HTw6 := Aside0.mk hrT
      clear hw9 hps hb9 hk9 hkgX hrM hrE hrT zgR0 zgR1 zgR2 zgR3 hfzgR HPwo HBwo HgRwo HgXwo HMwo HEwo HTwo
      clear zgX0 zgX1 zgX2 zgX3
      have zgR0 : w6.cell? ⟨gR, 0, none⟩ = some (.string nm) := blk_cell HgRw6.out 0
      have zgR1 : w6.cell? ⟨gR, 1, none⟩ = some (.slice Am xm.length cm) := blk_cell HgRw6.out 1
      have zgR2 : w6.cell? ⟨gR, 2, none⟩ = some (.slice Ae xe.length ce) := blk_cell HgRw6.out 2
      have zgR3 : w6.cell? ⟨gR, 3, none⟩ = some (.slice At xt.length ct) := blk_cell HgRw6.out 3
      refine bodyPost_ret (v := .agg #[.string nm, .slice Am xm.length cm, .slice Ae xe.length ce, .slice At xt.length ct]) ?_ rfl ?_
      · rw [results_cell rfl]
        go_simp
        first | rfl | done
      · exact ⟨Am, cm, Ae, ce, At, ct, xm, xe, xt, by rw [HSR.out.nam], ⟨⟨HSR.out.ms, HSR.out.es, HSR.out.ts, HSR.out.ap⟩⟩, HMw6, HEw6, HTw6, HPw6, HBw6⟩
    | false =>
      by_cases hnil : s.1 = []
      · obtain ⟨l9, b9⟩ := s
        simp only at hb hnil
        subst hb hnil
        obtain ⟨A8, c8, hk9⟩ := HPwo.out.emp
        have c0 : wo.cell? ⟨p, 0, none⟩ = some (.slice A8 0 c8) := blk_cell hk9 0
        have c1 : wo.cell? ⟨p, 1, none⟩ = some (.bool false) := blk_cell hk9 1
        clear hk9
        have hE2 := HD.out
        rw [declA_done x _ (.inr rfl)] at hE2
        obtain ⟨rfl, rfl⟩ := Prod.mk.inj hE2
        clear hE2
        have HEND := Aside0.mk HSR.out
        have zgX0 : wo.cell? ⟨gX, 0, none⟩ = some (.string nm) := blk_cell HgXwo.out 0
        have zgX1 : wo.cell? ⟨gX, 1, none⟩ = some (.slice Am xm.length cm) := blk_cell HgXwo.out 1
        have zgX2 : wo.cell? ⟨gX, 2, none⟩ = some (.slice Ae xe.length ce) := blk_cell HgXwo.out 2
        have zgX3 : wo.cell? ⟨gX, 3, none⟩ = some (.slice At xt.length ct) := blk_cell HgXwo.out 3
        have zgR0 : wo.cell? ⟨gR, 0, none⟩ = some (.string ⟨#[]⟩) := blk_cell HgRwo.out 0
        have zgR1 : wo.cell? ⟨gR, 1, none⟩ = some (.slice none 0 0) := blk_cell HgRwo.out 1
        have zgR2 : wo.cell? ⟨gR, 2, none⟩ = some (.slice none 0 0) := blk_cell HgRwo.out 2
        have zgR3 : wo.cell? ⟨gR, 3, none⟩ = some (.slice none 0 0) := blk_cell HgRwo.out 3
        have hfzgR := fun i => blk_frozen HgRwo.out i
        go_wp2_with fail
        change bodyPost _ _ _ _ _ ((((wo.setCell ⟨gR, 0, none⟩ (.string nm)).setCell ⟨gR, 1, none⟩ (.slice Am xm.length cm)).setCell ⟨gR, 2, none⟩ (.slice Ae xe.length ce)).setCell ⟨gR, 3, none⟩ (.slice At xt.length ct))
        have hps := ((((HPwo.out.far HNgR.out HWgR.out 0 (.string nm)).far HNgR.out HWgR.out 1 (.slice Am xm.length cm)).far HNgR.out HWgR.out 2 (.slice Ae xe.length ce)).far HNgR.out HWgR.out 3 (.slice At xt.length ct))
        have hb9 := (grown_far (grown_far (grown_far (grown_far HBwo.out HLgR.out 0 (.string nm)) HLgR.out 1 (.slice Am xm.length cm)) HLgR.out 2 (.slice Ae xe.length ce)) HLgR.out 3 (.slice At xt.length ct))
        have hk9 := (blk_set (blk_set (blk_set (blk_set HgRwo.out 0 (.string nm)) 1 (.slice Am xm.length cm)) 2 (.slice Ae xe.length ce)) 3 (.slice At xt.length ct))
        simp only [List.setIfInBounds_toArray, List.set_cons_zero, List.set_cons_succ] at hk9
        have hkgX := (blk_far (blk_far (blk_far (blk_far HgXwo.out (p := ⟨gR, 0, none⟩) (fun e => HDgRgX.out e.symm) (.string nm)) (p := ⟨gR, 1, none⟩) (fun e => HDgRgX.out e.symm) (.slice Am xm.length cm)) (p := ⟨gR, 2, none⟩) (fun e => HDgRgX.out e.symm) (.slice Ae xe.length ce)) (p := ⟨gR, 3, none⟩) (fun e => HDgRgX.out e.symm) (.slice At xt.length ct))
        have hrM := (row_far (row_far (row_far (row_far HMwo.out HgRwo.out (by decide) 0 (.string nm)) (blk_set HgRwo.out 0 (.string nm)) (by decide) 1 (.slice Am xm.length cm)) (blk_set (blk_set HgRwo.out 0 (.string nm)) 1 (.slice Am xm.length cm)) (by decide) 2 (.slice Ae xe.length ce)) (blk_set (blk_set (blk_set HgRwo.out 0 (.string nm)) 1 (.slice Am xm.length cm)) 2 (.slice Ae xe.length ce)) (by decide) 3 (.slice At xt.length ct))
        have hrE := (row_far (row_far (row_far (row_far HEwo.out HgRwo.out (by decide) 0 (.string nm)) (blk_set HgRwo.out 0 (.string nm)) (by decide) 1 (.slice Am xm.length cm)) (blk_set (blk_set HgRwo.out 0 (.string nm)) 1 (.slice Am xm.length cm)) (by decide) 2 (.slice Ae xe.length ce)) (blk_set (blk_set (blk_set HgRwo.out 0 (.string nm)) 1 (.slice Am xm.length cm)) 2 (.slice Ae xe.length ce)) (by decide) 3 (.slice At xt.length ct))
        have hrT := (row_far (row_far (row_far (row_far HTwo.out HgRwo.out (by decide) 0 (.string nm)) (blk_set HgRwo.out 0 (.string nm)) (by decide) 1 (.slice Am xm.length cm)) (blk_set (blk_set HgRwo.out 0 (.string nm)) 1 (.slice Am xm.length cm)) (by decide) 2 (.slice Ae xe.length ce)) (blk_set (blk_set (blk_set HgRwo.out 0 (.string nm)) 1 (.slice Am xm.length cm)) 2 (.slice Ae xe.length ce)) (by decide) 3 (.slice At xt.length ct))
        obtain ⟨w7, hw9⟩ : ∃ x, ((((wo.setCell ⟨gR, 0, none⟩ (.string nm)).setCell ⟨gR, 1, none⟩ (.slice Am xm.length cm)).setCell ⟨gR, 2, none⟩ (.slice Ae xe.length ce)).setCell ⟨gR, 3, none⟩ (.slice At xt.length ct)) = x := ⟨_, rfl⟩
        rw [hw9] at hps hb9 hk9 hkgX hrM hrE hrT ⊢
        have HPw7 := Aside0.mk hps
        have HBw7 := Aside0.mk hb9
        have HgRw7 := Aside0.mk hk9
        have HgXw7 := Aside0.mk hkgX
        have HMw7 := Aside0.mk hrM
        have HEw7 := Aside0.mk hrE
        have HTw7 := Aside0.mk hrT
        clear hw9 hps hb9 hk9 hkgX hrM hrE hrT zgR0 zgR1 zgR2 zgR3 hfzgR HPwo HBwo HgRwo HgXwo HMwo HEwo HTwo
        clear zgX0 zgX1 zgX2 zgX3
        have zgR0 : w7.cell? ⟨gR, 0, none⟩ = some (.string nm) := blk_cell HgRw7.out 0
        have zgR1 : w7.cell? ⟨gR, 1, none⟩ = some (.slice Am xm.length cm) := blk_cell HgRw7.out 1
        have zgR2 : w7.cell? ⟨gR, 2, none⟩ = some (.slice Ae xe.length ce) := blk_cell HgRw7.out 2
        have zgR3 : w7.cell? ⟨gR, 3, none⟩ = some (.slice At xt.length ct) := blk_cell HgRw7.out 3
        refine bodyPost_ret (v := .agg #[.string nm, .slice Am xm.length cm, .slice Ae xe.length ce, .slice At xt.length ct]) ?_ rfl ?_
        · rw [results_cell rfl]
          go_simp
          first | rfl | done
        · exact ⟨Am, cm, Ae, ce, At, ct, xm, xe, xt, by rw [HSR.out.nam], ⟨⟨HSR.out.ms, HSR.out.es, HSR.out.ts, HSR.out.ap⟩⟩, HMw7, HEw7, HTw7, HPw7, HBw7⟩
      · have hnl : 0 < s.1.length := List.length_pos_iff.2 hnil
        obtain ⟨A8, c8, hk9, _⟩ := HPwo.out.par
        have c0 : wo.cell? ⟨p, 0, none⟩ = some (.slice A8 s.1.length c8) := blk_cell hk9 0
        have c1 : wo.cell? ⟨p, 1, none⟩ = some (.bool s.2) := blk_cell hk9 1
        rw [hb] at c1
        clear hk9
        obtain ⟨n8, hn8⟩ : ∃ n, s.1.length = n := ⟨_, rfl⟩
        rw [hn8] at c0 hnl
        have d1 : decide ((0 : Int) < (n8 : Int)) = true := decide_eq_true (by omega)
        have d2 : decide (0 < n8) = true := decide_eq_true hnl
        clear hn8
        cases h1 : takesB w_message s with
        | true =>
          have HW1 := Aside0.mk h1
          have hm1 := mu_takes h1
          have hm2 := mu_mess (takesM w_message s)
          have HD2 := Aside0.mk (show declA _ _ = (X, S6) from by rw [← declA_message x s hb h1]; exact HD.out)
          obtain ⟨t1, ht1⟩ : ∃ x, takesM w_message s = x := ⟨_, rfl⟩
          obtain ⟨m, hm⟩ : ∃ x, messV t1 = x := ⟨_, rfl⟩
          obtain ⟨t9, ht9⟩ : ∃ x, messM t1 = x := ⟨_, rfl⟩
          rw [ht1] at hm1 hm2 HD2
          rw [ht9] at hm2
          rw [hm, ht9] at HD2
          have HT1 : Aside0 ((s.1.tail, s.2) = t1) := ⟨by rw [← ht1, takesM, if_pos h1]⟩
          have HMM : Aside0 (mu t9 < mu s) := ⟨by omega⟩
          have hq1 : xm.length + 1 + mu t9 ≤ 20001 := by omega
          have hq2 : xe.length + 0 + mu t9 ≤ 20001 := by omega
          have hq3 : xt.length + 0 + mu t9 ≤ 20001 := by omega
          have HQ1 := Aside0.mk hq1
          have HQ2 := Aside0.mk hq2
          have HQ3 := Aside0.mk hq3
          have hq4 : xm.length ≤ 20001 ∧ xe.length ≤ 20001 ∧ xt.length ≤ 20001 := by omega
          obtain ⟨hq5, hq6, hq7⟩ := hq4
          have Am_ := Aside0.mk hm
          have At9 := Aside0.mk ht9
          clear hm1 hm2 ht1 hm ht9 hq1 hq2 hq3 hb hnil HD
          go_wp2_with fail
          refine (takes_yes w0 wo p s HPwo w_message HW1 t1 HT1).mono ?_
          rintro e w8 ⟨rfl, HPw8, hb9⟩
          have HBw8 := Aside0.mk (HBwo.out.trans hb9.out)
          have HgRw8 := Aside0.mk (grown_block hb9.out HgRwo.out HNgR.out)
          have HgXw8 := Aside0.mk (grown_block hb9.out HgXwo.out HNgX.out)
          have HMw8 := Aside0.mk (row_call HMwo.out HPwo.out (by decide) hb9.out)
          have HEw8 := Aside0.mk (row_call HEwo.out HPwo.out (by decide) hb9.out)
          have HTw8 := Aside0.mk (row_call HTwo.out HPwo.out (by decide) hb9.out)
          have HZw8 := Aside0.mk (Nat.le_trans HZwo.out hb9.out.size)
          clear hb9 HPwo HBwo HgRwo HgXwo HMwo HEwo HTwo
          go_upto_region 7 with fail
          have HPd := Aside0.mk (HPw8.out.below (Below.refl w8.heap.size w8).drew)
          have HBd := Aside0.mk (HBw8.out.trans (below_grownBy (Below.refl w8.heap.size w8).drew (some p)))
          have HMd := Aside0.mk (Kd.R_below HMw8.out (Below.refl w8.heap.size w8).drew)
          have HEd := Aside0.mk (Kd.R_below HEw8.out (Below.refl w8.heap.size w8).drew)
          have HTd := Aside0.mk (Kd.R_below HTw8.out (Below.refl w8.heap.size w8).drew)
          have kd9 : w8.drew.cell? ⟨gX, 1, none⟩ = some (.slice Am xm.length cm) := blk_cell HgXw8.out 1
          obtain ⟨lo, hlo⟩ : ∃ x, w8.heap.size = x := ⟨_, rfl⟩
          have HLO : Aside0 (w8.drew.heap.size = lo) := ⟨hlo⟩
          have HOK : Aside0 (∀ k, lo ≤ k → True ∧ some k ≠ (Value.slice Am xm.length cm).ownBlock) := ⟨fun k hk => ⟨trivial, fun e => by obtain ⟨inner, ho⟩ := Kd.R_own HMw8.out; have := own_lt ho k e.symm; omega⟩⟩
          have HLW : Aside0 (w.heap.size ≤ lo) := ⟨by rw [← hlo]; exact HBw8.out.size⟩
          clear hlo
          go_region_law
            (first
              | (go_simp; go_at_call 35; refine (message_any2 w0 _ p t1 HPd m Am_ t9 At9).mono ?_; rintro e w2 ⟨A1, n1, c1, A2, n2, c2, rfl, hel, hp2, hb2⟩; rw [HLO.out] at hel; obtain ⟨hi, hhi⟩ : ∃ x, w2.heap.size = x := ⟨_, rfl⟩; rw [hhi] at hel; have HHI := Aside0.mk hhi; have HEL := Aside0.mk (kI_mk (Kd.M_lower_ hel.out HLW.out)); clear hel hhi; have HP2 := hp2; have HB2 := Aside0.mk (HBd.out.trans hb2.out); have HgR2 := Aside0.mk (grown_block hb2.out (show w8.drew.heap[gR]? = _ from HgRw8.out) HNgR.out); have HgX2 := Aside0.mk (grown_block hb2.out (show w8.drew.heap[gX]? = _ from HgXw8.out) HNgX.out); have HM2 := Aside0.mk (row_call HMd.out HPd.out (by decide) hb2.out); have HE2 := Aside0.mk (row_call HEd.out HPd.out (by decide) hb2.out); have HT2 := Aside0.mk (row_call HTd.out HPd.out (by decide) hb2.out); have HZ2 := Aside0.mk hb2.out.size; have k29 : w2.cell? ⟨gX, 1, none⟩ = some (.slice Am xm.length cm) := blk_cell HgX2.out 1; clear hp2 hb2; have k2A : (w2.alloc (.cells #[.string m.name, .slice A1 n1 c1, .slice A2 n2 c2] 45)).cell? ⟨gX, 1, none⟩ = some (.slice Am xm.length cm) := pw_cell_below ((Below.refl w2.heap.size w2).alloc (Nat.le_refl _) _) k29; go_simp)
              | (refine Kd.R_append_step kI (w0 := w2) (W := w2) w.heap.size rfl (.tmp 33) (.tmp 36) 23 45 (.agg #[.string ⟨#[]⟩, .slice none 0 0, .slice none 0 0]) 64 rfl Tryd.underlying23 infoMessage rfl (by decide) (by decide) (.slice Am xm.length cm) (xm) ((gS m, lo, hi)) [.string m.name, .slice A1 n1 c1, .slice A2 n2 c2] (fun _ => True) ((fun k => lo ≤ k)) rfl rfl HEL.out (fun k hk => HOK.out k hk) (fun _ _ => trivial) HM2.out (Below.refl _ _) HB2.out.size (by omega) ?_; intro v5 w5 hr5 hb5 hg5 hat5; obtain ⟨A9, c9, rfl⟩ := Kd.R_slice hr5; obtain ⟨hp9, hf9⟩ := app_frame HP2.out HB2.out H.out.bel.size HM2.out (by decide) hg5; have HP5 := Aside0.mk hp9; have HB5 := Aside0.mk hf9; have HgR5 := Aside0.mk (blk_grown HgR2.out hg5 (Kd.R_ne HM2.out HgR2.out (by decide))); have HgX5 := Aside0.mk (blk_grown HgX2.out hg5 (Kd.R_ne HM2.out HgX2.out (by decide))); have HE5 := Aside0.mk (row_other HE2.out HM2.out (by decide) hg5); have HT5 := Aside0.mk (row_other HT2.out HM2.out (by decide) hg5); have HM5 := Aside0.mk hr5; have k59 : w5.cell? ⟨gX, 1, none⟩ = some (.slice Am xm.length cm) := blk_cell HgX5.out 1; have z59 := blk_frozen HgX5.out 1; have HZ5 := Aside0.mk hg5.size; clear hr5 hb5 hg5 hat5 hp9 hf9; go_simp))
          all_goals
            go_wp2_with fail
            have hps := HP5.out.far HNgX.out HWgX.out 1 (.slice A9 (xm ++ [(gS m, lo, hi)]).length c9)
            have hb9 := grown_far HB5.out HLgX.out 1 (.slice A9 (xm ++ [(gS m, lo, hi)]).length c9)
            have hk9 := blk_set HgX5.out 1 (.slice A9 (xm ++ [(gS m, lo, hi)]).length c9)
            simp only [List.setIfInBounds_toArray, List.set_cons_zero, List.set_cons_succ] at hk9
            have hkR := blk_far HgR5.out (p := ⟨gX, 1, none⟩) HDgRgX.out (.slice A9 (xm ++ [(gS m, lo, hi)]).length c9)
            have hrM := row_far HM5.out HgX5.out (by decide) 1 (.slice A9 (xm ++ [(gS m, lo, hi)]).length c9)
            have hrE := row_far HE5.out HgX5.out (by decide) 1 (.slice A9 (xm ++ [(gS m, lo, hi)]).length c9)
            have hrT := row_far HT5.out HgX5.out (by decide) 1 (.slice A9 (xm ++ [(gS m, lo, hi)]).length c9)
            simp only [List.length_append, List.length_cons, List.length_nil, Nat.zero_add] at hk9 hps hb9 hkR hrM hrE hrT
            have HP9 := Aside0.mk hps
            have HB9 := Aside0.mk hb9
            have HgR9 := Aside0.mk hkR
            have HgX9 := Aside0.mk hk9
            have HM9 := Aside0.mk hrM
            have HE9 := Aside0.mk hrE
            have HT9 := Aside0.mk hrT
            have HMY := Aside0.mk hps.mu
            clear hps hb9 hkR hk9 hrM hrE hrT
            go_roundw
            case rel => exact ⟨{ x with msgs := x.msgs ++ [m] }, xm ++ [(gS m, lo, hi)], xe, xt, t9, A9, c9, Ae, ce, At, ct, ⟨HSR.out.addM m lo hi (by have h9 : _ = lo := HLO.out; rw [← h9]; exact HZw8.out) (by rw [World.size_setCell, ← HHI.out]; exact HZ5.out) (by rw [World.size_setCell]; exact Nat.le_trans HZw8.out (Nat.le_trans HZ2.out HZ5.out))⟩, HD2, by simpa using HQ1.out, by simpa using HQ2.out, by simpa using HQ3.out, HP9, HB9, HgR9, ⟨by rw [List.length_append]; exact HgX9.out⟩, ⟨by rw [List.length_append]; exact HM9.out⟩, HE9, HT9⟩
            case measure => rw [HMY.out, HMU.out]; exact HMM.out
        | false =>
          have HW1 := Aside0.mk h1
          cases h2 : takesB w_enum s with
          | true =>
            have HW2 := Aside0.mk h2
            have hm1 := mu_takes h2
            have hm2 := mu_enum (takesM w_enum s)
            have HD2 := Aside0.mk (show declA _ _ = (X, S6) from by rw [← declA_enum x s hb h1 h2]; exact HD.out)
            obtain ⟨t1, ht1⟩ : ∃ x, takesM w_enum s = x := ⟨_, rfl⟩
            obtain ⟨m, hm⟩ : ∃ x, enumV t1 = x := ⟨_, rfl⟩
            obtain ⟨t9, ht9⟩ : ∃ x, enumM t1 = x := ⟨_, rfl⟩
            rw [ht1] at hm1 hm2 HD2
            rw [ht9] at hm2
            rw [hm, ht9] at HD2
            have HT1 : Aside0 ((s.1.tail, s.2) = t1) := ⟨by rw [← ht1, takesM, if_pos h2]⟩
            have HMM : Aside0 (mu t9 < mu s) := ⟨by omega⟩
            have hq1 : xm.length + 0 + mu t9 ≤ 20001 := by omega
            have hq2 : xe.length + 1 + mu t9 ≤ 20001 := by omega
            have hq3 : xt.length + 0 + mu t9 ≤ 20001 := by omega
            have HQ1 := Aside0.mk hq1
            have HQ2 := Aside0.mk hq2
            have HQ3 := Aside0.mk hq3
            have hq4 : xm.length ≤ 20001 ∧ xe.length ≤ 20001 ∧ xt.length ≤ 20001 := by omega
            obtain ⟨hq5, hq6, hq7⟩ := hq4
            have Am_ := Aside0.mk hm
            have At9 := Aside0.mk ht9
            clear hm1 hm2 ht1 hm ht9 hq1 hq2 hq3 hb hnil HD
            go_wp2_with fail
            refine (takes_no w0 wo p s HPwo w_message HW1).mono ?_
            rintro e w' ⟨rfl, rfl⟩
            go_wp2_with fail
            refine (takes_yes w0 wo p s HPwo w_enum HW2 t1 HT1).mono ?_
            rintro e w9 ⟨rfl, HPw9, hb9⟩
            have HBw9 := Aside0.mk (HBwo.out.trans hb9.out)
            have HgRw9 := Aside0.mk (grown_block hb9.out HgRwo.out HNgR.out)
            have HgXw9 := Aside0.mk (grown_block hb9.out HgXwo.out HNgX.out)
            have HMw9 := Aside0.mk (row_call HMwo.out HPwo.out (by decide) hb9.out)
            have HEw9 := Aside0.mk (row_call HEwo.out HPwo.out (by decide) hb9.out)
            have HTw9 := Aside0.mk (row_call HTwo.out HPwo.out (by decide) hb9.out)
            have HZw9 := Aside0.mk (Nat.le_trans HZwo.out hb9.out.size)
            clear hb9 HPwo HBwo HgRwo HgXwo HMwo HEwo HTwo
            go_upto_region 9 with fail
            have HPd := Aside0.mk (HPw9.out.below (Below.refl w9.heap.size w9).drew)
            have HBd := Aside0.mk (HBw9.out.trans (below_grownBy (Below.refl w9.heap.size w9).drew (some p)))
            have HMd := Aside0.mk (Kd.R_below HMw9.out (Below.refl w9.heap.size w9).drew)
            have HEd := Aside0.mk (Kd.R_below HEw9.out (Below.refl w9.heap.size w9).drew)
            have HTd := Aside0.mk (Kd.R_below HTw9.out (Below.refl w9.heap.size w9).drew)
            have kd9 : w9.drew.cell? ⟨gX, 2, none⟩ = some (.slice Ae xe.length ce) := blk_cell HgXw9.out 2
            obtain ⟨lo, hlo⟩ : ∃ x, w9.heap.size = x := ⟨_, rfl⟩
            have HLO : Aside0 (w9.drew.heap.size = lo) := ⟨hlo⟩
            have HOK : Aside0 (∀ k, lo ≤ k → True ∧ some k ≠ (Value.slice Ae xe.length ce).ownBlock) := ⟨fun k hk => ⟨trivial, fun e => by obtain ⟨inner, ho⟩ := Kd.R_own HEw9.out; have := own_lt ho k e.symm; omega⟩⟩
            have HLW : Aside0 (w.heap.size ≤ lo) := ⟨by rw [← hlo]; exact HBw9.out.size⟩
            clear hlo
            go_region_law
              (first
                | (go_simp; go_at_call 36; refine (enum_any2 w0 _ p t1 HPd m Am_ t9 At9).mono ?_; rintro e w2 ⟨A1, n1, c1, rfl, hel, hp2, hb2⟩; rw [HLO.out] at hel; have HEL := Aside0.mk (Kd.M_lower_ hel.out HLW.out); clear hel; have HP2 := hp2; have HB2 := Aside0.mk (HBd.out.trans hb2.out); have HgR2 := Aside0.mk (grown_block hb2.out (show w9.drew.heap[gR]? = _ from HgRw9.out) HNgR.out); have HgX2 := Aside0.mk (grown_block hb2.out (show w9.drew.heap[gX]? = _ from HgXw9.out) HNgX.out); have HM2 := Aside0.mk (row_call HMd.out HPd.out (by decide) hb2.out); have HE2 := Aside0.mk (row_call HEd.out HPd.out (by decide) hb2.out); have HT2 := Aside0.mk (row_call HTd.out HPd.out (by decide) hb2.out); have HZ2 := Aside0.mk hb2.out.size; have k29 : w2.cell? ⟨gX, 2, none⟩ = some (.slice Ae xe.length ce) := blk_cell HgX2.out 2; clear hp2 hb2; have k2A : (w2.alloc (.cells #[.string m.name, .slice A1 n1 c1] 68)).cell? ⟨gX, 2, none⟩ = some (.slice Ae xe.length ce) := pw_cell_below ((Below.refl w2.heap.size w2).alloc (Nat.le_refl _) _) k29; go_simp)
                | (refine Kd.R_append_step k68 (w0 := w2) (W := w2) w.heap.size rfl (.tmp 43) (.tmp 46) 24 68 (.agg #[.string ⟨#[]⟩, .slice none 0 0]) 40 rfl Tryd.underlying24 infoEnum rfl (by decide) (by decide) (.slice Ae xe.length ce) (xe) (eS m) [.string m.name, .slice A1 n1 c1] (fun _ => True) ((fun k => lo ≤ k)) rfl rfl HEL.out (fun k hk => HOK.out k hk) (fun _ _ => trivial) HE2.out (Below.refl _ _) HB2.out.size (by omega) ?_; intro v5 w5 hr5 hb5 hg5 hat5; obtain ⟨A9, c9, rfl⟩ := Kd.R_slice hr5; obtain ⟨hp9, hf9⟩ := app_frame HP2.out HB2.out H.out.bel.size HE2.out (by decide) hg5; have HP5 := Aside0.mk hp9; have HB5 := Aside0.mk hf9; have HgR5 := Aside0.mk (blk_grown HgR2.out hg5 (Kd.R_ne HE2.out HgR2.out (by decide))); have HgX5 := Aside0.mk (blk_grown HgX2.out hg5 (Kd.R_ne HE2.out HgX2.out (by decide))); have HM5 := Aside0.mk (row_other HM2.out HE2.out (by decide) hg5); have HT5 := Aside0.mk (row_other HT2.out HE2.out (by decide) hg5); have HE5 := Aside0.mk hr5; have k59 : w5.cell? ⟨gX, 2, none⟩ = some (.slice Ae xe.length ce) := blk_cell HgX5.out 2; have z59 := blk_frozen HgX5.out 2; have HZ5 := Aside0.mk hg5.size; clear hr5 hb5 hg5 hat5 hp9 hf9; go_simp))
            all_goals
              go_wp2_with fail
              have hps := HP5.out.far HNgX.out HWgX.out 2 (.slice A9 (xe ++ [eS m]).length c9)
              have hb9 := grown_far HB5.out HLgX.out 2 (.slice A9 (xe ++ [eS m]).length c9)
              have hk9 := blk_set HgX5.out 2 (.slice A9 (xe ++ [eS m]).length c9)
              simp only [List.setIfInBounds_toArray, List.set_cons_zero, List.set_cons_succ] at hk9
              have hkR := blk_far HgR5.out (p := ⟨gX, 2, none⟩) HDgRgX.out (.slice A9 (xe ++ [eS m]).length c9)
              have hrM := row_far HM5.out HgX5.out (by decide) 2 (.slice A9 (xe ++ [eS m]).length c9)
              have hrE := row_far HE5.out HgX5.out (by decide) 2 (.slice A9 (xe ++ [eS m]).length c9)
              have hrT := row_far HT5.out HgX5.out (by decide) 2 (.slice A9 (xe ++ [eS m]).length c9)
              simp only [List.length_append, List.length_cons, List.length_nil, Nat.zero_add] at hk9 hps hb9 hkR hrM hrE hrT
              have HP9 := Aside0.mk hps
              have HB9 := Aside0.mk hb9
              have HgR9 := Aside0.mk hkR
              have HgX9 := Aside0.mk hk9
              have HM9 := Aside0.mk hrM
              have HE9 := Aside0.mk hrE
              have HT9 := Aside0.mk hrT
              have HMY := Aside0.mk hps.mu
              clear hps hb9 hkR hk9 hrM hrE hrT
              go_roundw
              case rel => exact ⟨{ x with enums := x.enums ++ [m] }, xm, xe ++ [eS m], xt, t9, Am, cm, A9, c9, At, ct, ⟨HSR.out.addE m (by rw [World.size_setCell]; exact Nat.le_trans HZw9.out (Nat.le_trans HZ2.out HZ5.out))⟩, HD2, by simpa using HQ1.out, by simpa using HQ2.out, by simpa using HQ3.out, HP9, HB9, HgR9, ⟨by rw [List.length_append]; exact HgX9.out⟩, HM9, ⟨by rw [List.length_append]; exact HE9.out⟩, HT9⟩
              case measure => rw [HMY.out, HMU.out]; exact HMM.out
          | false =>
            have HW2 := Aside0.mk h2
            cases h3 : takesB w_call s with
            | true =>
              have HW3 := Aside0.mk h3
              have hm1 := mu_takes h3
              have hm2 := mu_call (takesM w_call s)
              have HD2 := Aside0.mk (show declA _ _ = (X, S6) from by rw [← declA_call x s hb h1 h2 h3]; exact HD.out)
              obtain ⟨t1, ht1⟩ : ∃ x, takesM w_call s = x := ⟨_, rfl⟩
              obtain ⟨m, hm⟩ : ∃ x, callV t1 = x := ⟨_, rfl⟩
              obtain ⟨t9, ht9⟩ : ∃ x, callM t1 = x := ⟨_, rfl⟩
              rw [ht1] at hm1 hm2 HD2
              rw [ht9] at hm2
              rw [hm, ht9] at HD2
              have HT1 : Aside0 ((s.1.tail, s.2) = t1) := ⟨by rw [← ht1, takesM, if_pos h3]⟩
              have HMM : Aside0 (mu t9 < mu s) := ⟨by omega⟩
              have hq1 : xm.length + 0 + mu t9 ≤ 20001 := by omega
              have hq2 : xe.length + 0 + mu t9 ≤ 20001 := by omega
              have hq3 : xt.length + 1 + mu t9 ≤ 20001 := by omega
              have HQ1 := Aside0.mk hq1
              have HQ2 := Aside0.mk hq2
              have HQ3 := Aside0.mk hq3
              have hq4 : xm.length ≤ 20001 ∧ xe.length ≤ 20001 ∧ xt.length ≤ 20001 := by omega
              obtain ⟨hq5, hq6, hq7⟩ := hq4
              have Am_ := Aside0.mk hm
              have At9 := Aside0.mk ht9
              clear hm1 hm2 ht1 hm ht9 hq1 hq2 hq3 hb hnil HD
              go_wp2_with fail
              refine (takes_no w0 wo p s HPwo w_message HW1).mono ?_
              rintro e w' ⟨rfl, rfl⟩
              go_wp2_with fail
              refine (takes_no w0 wo p s HPwo w_enum HW2).mono ?_
              rintro e w' ⟨rfl, rfl⟩
              go_wp2_with fail
              refine (takes_yes w0 wo p s HPwo w_call HW3 t1 HT1).mono ?_
              rintro e w10 ⟨rfl, HPw10, hb9⟩
              have HBw10 := Aside0.mk (HBwo.out.trans hb9.out)
              have HgRw10 := Aside0.mk (grown_block hb9.out HgRwo.out HNgR.out)
              have HgXw10 := Aside0.mk (grown_block hb9.out HgXwo.out HNgX.out)
              have HMw10 := Aside0.mk (row_call HMwo.out HPwo.out (by decide) hb9.out)
              have HEw10 := Aside0.mk (row_call HEwo.out HPwo.out (by decide) hb9.out)
              have HTw10 := Aside0.mk (row_call HTwo.out HPwo.out (by decide) hb9.out)
              have HZw10 := Aside0.mk (Nat.le_trans HZwo.out hb9.out.size)
              clear hb9 HPwo HBwo HgRwo HgXwo HMwo HEwo HTwo
              go_upto_region 11 with fail
              have HPd := Aside0.mk (HPw10.out.below (Below.refl w10.heap.size w10).drew)
              have HBd := Aside0.mk (HBw10.out.trans (below_grownBy (Below.refl w10.heap.size w10).drew (some p)))
              have HMd := Aside0.mk (Kd.R_below HMw10.out (Below.refl w10.heap.size w10).drew)
              have HEd := Aside0.mk (Kd.R_below HEw10.out (Below.refl w10.heap.size w10).drew)
              have HTd := Aside0.mk (Kd.R_below HTw10.out (Below.refl w10.heap.size w10).drew)
              have kd9 : w10.drew.cell? ⟨gX, 3, none⟩ = some (.slice At xt.length ct) := blk_cell HgXw10.out 3
              obtain ⟨lo, hlo⟩ : ∃ x, w10.heap.size = x := ⟨_, rfl⟩
              have HLO : Aside0 (w10.drew.heap.size = lo) := ⟨hlo⟩
              have HOK : Aside0 (∀ k, lo ≤ k → True ∧ some k ≠ (Value.slice At xt.length ct).ownBlock) := ⟨fun k hk => ⟨trivial, fun e => by obtain ⟨inner, ho⟩ := Kd.R_own HTw10.out; have := own_lt ho k e.symm; omega⟩⟩
              have HLW : Aside0 (w.heap.size ≤ lo) := ⟨by rw [← hlo]; exact HBw10.out.size⟩
              clear hlo
              go_region_law
                (first
                  | (go_simp; go_at_call 37; refine (call_any2 w0 _ p t1 HPd m Am_ t9 At9).mono ?_; rintro e w2 ⟨rfl, hp2, hb2⟩; have HP2 := hp2; have HB2 := Aside0.mk (HBd.out.trans hb2.out); have HgR2 := Aside0.mk (grown_block hb2.out (show w10.drew.heap[gR]? = _ from HgRw10.out) HNgR.out); have HgX2 := Aside0.mk (grown_block hb2.out (show w10.drew.heap[gX]? = _ from HgXw10.out) HNgX.out); have HM2 := Aside0.mk (row_call HMd.out HPd.out (by decide) hb2.out); have HE2 := Aside0.mk (row_call HEd.out HPd.out (by decide) hb2.out); have HT2 := Aside0.mk (row_call HTd.out HPd.out (by decide) hb2.out); have HZ2 := Aside0.mk hb2.out.size; have k29 : w2.cell? ⟨gX, 3, none⟩ = some (.slice At xt.length ct) := blk_cell HgX2.out 3; clear hp2 hb2; have k2A : (w2.alloc (.cells #[.string m.name, .string m.inn, .string m.out] 72)).cell? ⟨gX, 3, none⟩ = some (.slice At xt.length ct) := pw_cell_below ((Below.refl w2.heap.size w2).alloc (Nat.le_refl _) _) k29; go_simp)
                  | (refine Kd.R_append_step k72 (w0 := w2) (W := w2) w.heap.size rfl (.tmp 53) (.tmp 56) 25 72 (.agg #[.string ⟨#[]⟩, .string ⟨#[]⟩, .string ⟨#[]⟩]) 48 rfl Tryd.underlying25 infoMethod rfl (by decide) (by decide) (.slice At xt.length ct) (xt) (mS m) [.string m.name, .string m.inn, .string m.out] (fun _ => True) ((fun _ => False)) rfl rfl (k72_mkM _ _ _ (mS m)) (fun _ h => h.elim) (fun _ _ => trivial) HT2.out (Below.refl _ _) HB2.out.size (by omega) ?_; intro v5 w5 hr5 hb5 hg5 hat5; obtain ⟨A9, c9, rfl⟩ := Kd.R_slice hr5; obtain ⟨hp9, hf9⟩ := app_frame HP2.out HB2.out H.out.bel.size HT2.out (by decide) hg5; have HP5 := Aside0.mk hp9; have HB5 := Aside0.mk hf9; have HgR5 := Aside0.mk (blk_grown HgR2.out hg5 (Kd.R_ne HT2.out HgR2.out (by decide))); have HgX5 := Aside0.mk (blk_grown HgX2.out hg5 (Kd.R_ne HT2.out HgX2.out (by decide))); have HM5 := Aside0.mk (row_other HM2.out HT2.out (by decide) hg5); have HE5 := Aside0.mk (row_other HE2.out HT2.out (by decide) hg5); have HT5 := Aside0.mk hr5; have k59 : w5.cell? ⟨gX, 3, none⟩ = some (.slice At xt.length ct) := blk_cell HgX5.out 3; have z59 := blk_frozen HgX5.out 3; have HZ5 := Aside0.mk hg5.size; clear hr5 hb5 hg5 hat5 hp9 hf9; go_simp))
              all_goals
                go_wp2_with fail
                have hps := HP5.out.far HNgX.out HWgX.out 3 (.slice A9 (xt ++ [mS m]).length c9)
                have hb9 := grown_far HB5.out HLgX.out 3 (.slice A9 (xt ++ [mS m]).length c9)
                have hk9 := blk_set HgX5.out 3 (.slice A9 (xt ++ [mS m]).length c9)
                simp only [List.setIfInBounds_toArray, List.set_cons_zero, List.set_cons_succ] at hk9
                have hkR := blk_far HgR5.out (p := ⟨gX, 3, none⟩) HDgRgX.out (.slice A9 (xt ++ [mS m]).length c9)
                have hrM := row_far HM5.out HgX5.out (by decide) 3 (.slice A9 (xt ++ [mS m]).length c9)
                have hrE := row_far HE5.out HgX5.out (by decide) 3 (.slice A9 (xt ++ [mS m]).length c9)
                have hrT := row_far HT5.out HgX5.out (by decide) 3 (.slice A9 (xt ++ [mS m]).length c9)
                simp only [List.length_append, List.length_cons, List.length_nil, Nat.zero_add] at hk9 hps hb9 hkR hrM hrE hrT
                have HP9 := Aside0.mk hps
                have HB9 := Aside0.mk hb9
                have HgR9 := Aside0.mk hkR
                have HgX9 := Aside0.mk hk9
                have HM9 := Aside0.mk hrM
                have HE9 := Aside0.mk hrE
                have HT9 := Aside0.mk hrT
                have HMY := Aside0.mk hps.mu
                clear hps hb9 hkR hk9 hrM hrE hrT
                go_roundw
                case rel => exact ⟨{ x with meths := x.meths ++ [m] }, xm, xe, xt ++ [mS m], t9, Am, cm, Ae, ce, A9, c9, ⟨HSR.out.addT m (by rw [World.size_setCell]; exact Nat.le_trans HZw10.out (Nat.le_trans HZ2.out HZ5.out))⟩, HD2, by simpa using HQ1.out, by simpa using HQ2.out, by simpa using HQ3.out, HP9, HB9, HgR9, ⟨by rw [List.length_append]; exact HgX9.out⟩, HM9, HE9, ⟨by rw [List.length_append]; exact HT9.out⟩⟩
                case measure => rw [HMY.out, HMU.out]; exact HMM.out
            | false =>
              have HW3 := Aside0.mk h3
              have HD2 : Aside0 (declA x (s.1, true) = (X, S6)) := ⟨by rw [declA_done x _ (.inl rfl), ← declA_none x s hb hnil h1 h2 h3]; exact HD.out⟩
              have hmz : mu (s.1, true) = 0 := rfl
              have hm1 := mu_pos hb
              have HMM : Aside0 (mu (s.1, true) < mu s) := ⟨by omega⟩
              have HQ1 : Aside0 (xm.length + mu (s.1, true) ≤ 20001) := ⟨by omega⟩
              have HQ2 : Aside0 (xe.length + mu (s.1, true) ≤ 20001) := ⟨by omega⟩
              have HQ3 : Aside0 (xt.length + mu (s.1, true) ≤ 20001) := ⟨by omega⟩
              clear hmz hm1 hb hnil h1 h2 h3
              go_wp2_with fail
              refine (takes_no w0 wo p s HPwo w_message HW1).mono ?_
              rintro e w' ⟨rfl, rfl⟩
              go_wp2_with fail
              refine (takes_no w0 wo p s HPwo w_enum HW2).mono ?_
              rintro e w' ⟨rfl, rfl⟩
              go_wp2_with fail
              refine (takes_no w0 wo p s HPwo w_call HW3).mono ?_
              rintro e w' ⟨rfl, rfl⟩
              obtain ⟨v9, hk9⟩ := HPwo.out.wrong
              have z1 := blk_frozen hk9 1
              obtain ⟨h8, h9⟩ := HPwo.out.bad
              have hkR := blk_far HgRwo.out (p := ⟨p, 1, none⟩) HNgR.out (.bool true)
              have hkX := blk_far HgXwo.out (p := ⟨p, 1, none⟩) HNgX.out (.bool true)
              have hrM := row_far HMwo.out hk9 (by decide) 1 (.bool true)
              have hrE := row_far HEwo.out hk9 (by decide) 1 (.bool true)
              have hrT := row_far HTwo.out hk9 (by decide) 1 (.bool true)
              have HP9 := Aside0.mk h8
              have HB9 := Aside0.mk (HBwo.out.trans h9)
              have HgR9 := Aside0.mk hkR
              have HgX9 := Aside0.mk hkX
              have HM9 := Aside0.mk hrM
              have HE9 := Aside0.mk hrE
              have HT9 := Aside0.mk hrT
              have HMY := Aside0.mk h8.mu
              clear h8 h9 hk9 hkR hkX hrM hrE hrT
              go_wp2_with fail
              go_roundw
              case rel => exact ⟨x, xm, xe, xt, (s.1, true), Am, cm, Ae, ce, At, ct, ⟨HSR.out.more (by rw [World.size_setCell]; exact Nat.le_refl _)⟩, HD2, HQ1.out, HQ2.out, HQ3.out, HP9, HB9, HgR9, HgX9, HM9, HE9, HT9⟩
              case measure => rw [HMY.out, HMU.out]; exact HMM.out
end Go.Proofs.YtbfhglaaombglaaDoor
end
section
namespace Go.Proofs.YtbfhglaaombglaaDoor
set_option linter.unusedVariables false
set_option linter.unusedSimpArgs false
open Go.RowKit Go.Proofs.YtbfhglaaombglaaDoorW.PrintWords Go.Proofs.YtbfhglaaombglaaDoorW.PrintMore Go.Proofs.YtbfhglaaombglaaDoor.PIdlParses
abbrev Ms : Type := S45 × Nat × Nat
/-- A message's two rows. -/
structure MsgAt (w : World) (B g i : Nat) (x : Ms) (v1 v2 : Value) : Prop where
  c0 : w.cell? ⟨g, i * 3, none⟩ = some (.string x.1.f0)
  c1 : w.cell? ⟨g, i * 3 + 1, none⟩ = some v1
  c2 : w.cell? ⟨g, i * 3 + 2, none⟩ = some v2
  q1 : k43.Q 43 w B (fun k => x.2.1 ≤ k ∧ k < x.2.2) v1 x.1.f1
  q2 : (Kd.int .i64).Q 3 w B (fun k => x.2.1 ≤ k ∧ k < x.2.2) v2 x.1.f2
structure MsgsAt (w : World) (B g : Nat) (X : List Ms) : Prop where
  blk : ∃ cells, w.heap[g]? = some (.cells cells 45 (0, 0))
  el : ∀ i x, X[i]? = some x → ∃ v1 v2, MsgAt w B g i x v1 v2
/-- What messages are made of stays. -/
def MsgFr (w w1 : World) : Prop := ∀ (k : Nat) (c : Array Value) (t : TypeId), w.heap[k]? = some (.cells c t (0, 0)) → (t = 45 ∨ t = 43 ∨ t = 3) → w1.heap[k]? = some (.cells c t (0, 0))
theorem MsgFr.of_below {w w1 : World} (h : Below w.heap.size w w1) : MsgFr w w1 := fun k c t hk _ => (h.block k (blk_lt hk)).trans hk
theorem cell_same {w w1 : World} {a : Addr} {v : Value} {c : Array Value} {t : TypeId} (hk : w.heap[a.block]? = some (.cells c t (0, 0))) (hk1 : w1.heap[a.block]? = some (.cells c t (0, 0))) (h : w.cell? a = some v) : w1.cell? a = some v := by
  rw [World.cell?_of_block (hk1.trans hk.symm)]; exact h
theorem MsgAt.step {w w1 : World} {B g i : Nat} {x : Ms} {v1 v2 : Value} (h : MsgAt w B g i x v1 v2) (hb : ∃ cells, w.heap[g]? = some (.cells cells 45 (0, 0))) (hf : MsgFr w w1) : MsgAt w1 B g i x v1 v2 := by
  obtain ⟨cells, hc⟩ := hb
  have hc1 := hf g cells _ hc (.inl rfl)
  refine ⟨cell_same hc hc1 h.c0, cell_same hc hc1 h.c1, cell_same hc hc1 h.c2, ?_, ?_⟩
  · refine Kd.Q_mono (Kd.Q_step (w1 := w1) (Kd.Q_bound h.q1) (fun k hk _ => ?_)) (fun _ hk => hk.1)
    obtain ⟨_, _, _, q, hq, c, hc⟩ := hk
    have hq2 : q = 43 := by simpa [show k43.E = [] from rfl] using hq
    subst hq2
    rw [hc]
    exact hf k c _ hc (.inr (.inl rfl))
  · refine Kd.Q_mono (Kd.Q_step (w1 := w1) (Kd.Q_bound h.q2) (fun k hk _ => ?_)) (fun _ hk => hk.1)
    obtain ⟨_, _, _, q, hq, c, hc⟩ := hk
    have hq2 : q = 3 := by simpa [show (Kd.int .i64).E = [] from rfl] using hq
    subst hq2
    rw [hc]
    exact hf k c _ hc (.inr (.inr rfl))
theorem MsgsAt.step {w w1 : World} {B g : Nat} {X : List Ms} (h : MsgsAt w B g X) (hf : MsgFr w w1) : MsgsAt w1 B g X := by
  obtain ⟨cells, hc⟩ := h.blk
  refine ⟨⟨cells, hf g cells _ hc (.inl rfl)⟩, fun i x hx => ?_⟩
  obtain ⟨v1, v2, hm⟩ := h.el i x hx
  exact ⟨v1, v2, hm.step h.blk hf⟩
/-- A row of messages is such. -/
theorem msgs_of_R {w : World} {B : Nat} {A : Option Addr} {n c : Nat} {X : List Ms} (h : kI.R 45 w B (fun _ => True) (.slice A n c) X) (hn : 0 < X.length) : ∃ g, A = some ⟨g, 0, none⟩ ∧ MsgsAt w B g X := by
  obtain ⟨A', c', he, hl, hC⟩ := Kd.R_reads h
  injection he with e1 e2 e3
  subst e1 e2 e3
  obtain ⟨ad, had, _⟩ := hC.2.2 hn
  subst had
  obtain ⟨g, rfl⟩ := Kd.R_head h
  obtain ⟨inner, ho⟩ := Kd.R_own h
  refine ⟨g, rfl, own_typed ho g rfl, fun i x hx => ?_⟩
  have hil := (List.getElem?_eq_some_iff.1 hx).1
  obtain ⟨cs, _, hM, hcc⟩ := Kd.R_get h (⟨⟨ByteArray.empty, [], []⟩, 0, 0⟩ : Ms) (i : Int) (by omega) (by omega)
  rw [Int.toNat_natCast, List.getD_eq_getElem?_getD, hx, Option.getD_some] at hM
  have hM2 : k45.M w B (fun k => (True ∧ some k ≠ (Value.slice (some (⟨g, 0, none⟩ : Addr)) X.length c).ownBlock) ∧ x.2.1 ≤ k ∧ k < x.2.2) x.1 cs := hM
  obtain ⟨v1, v2, rfl, h1, h2⟩ := k45_openM hM2
  rw [Int.toNat_natCast] at hcc
  have a0 := hcc 0 _ rfl
  have a1 := hcc 1 _ rfl
  have a2 := hcc 2 _ rfl
  rw [add_at, Nat.zero_add] at a0 a1 a2
  exact ⟨v1, v2, a0, a1, a2, Kd.Q_of_R (Kd.R_mono h1 (fun _ hk => hk.2)), Kd.Q_of_R (Kd.R_mono h2 (fun _ hk => hk.2))⟩
/-- A field's type, written. -/
def putK (f : S43) (k : Int) : S43 := ⟨f.f0, f.f1, f.f2, ⟨k, f.f3.f1⟩⟩
theorem MsgsAt.put {w : World} {B g : Nat} {X : List Ms} (h : MsgsAt w B g X) (hap : X.Pairwise (fun a b => a.2.2 ≤ b.2.1)) {i : Nat} {x : Ms} (hx : X[i]? = some x) {v2 : Value} {gf o n c : Nat} (hm : MsgAt w B g i x (.slice (some ⟨gf, o, none⟩) n c) v2) {j : Nat} {f : S43} (hj : x.1.f1[j]? = some f) (k : Int) :
    MsgsAt (w.setCell ⟨gf, o + j * 5 + 3, none⟩ (.int .i64 k)) B g (X.set i (⟨x.1.f0, x.1.f1.set j (putK f k), x.1.f2⟩, x.2.1, x.2.2)) ∧ MsgAt (w.setCell ⟨gf, o + j * 5 + 3, none⟩ (.int .i64 k)) B g i (⟨x.1.f0, x.1.f1.set j (putK f k), x.1.f2⟩, x.2.1, x.2.2) (.slice (some ⟨gf, o, none⟩) n c) v2 := by
  obtain ⟨hn, hnc, _⟩ := Kd.Q_reads' hm.q1
  have hjl := (List.getElem?_eq_some_iff.1 hj).1
  have hgf : x.2.1 ≤ gf ∧ gf < x.2.2 := hm.q1.1 gf rfl
  obtain ⟨cf, hcf⟩ := Kd.Q_typed hm.q1 gf rfl
  obtain ⟨cells, hcells⟩ := h.blk
  have hne : g ≠ gf := blk_ne hcells hcf (by decide)
  have hil := (List.getElem?_eq_some_iff.1 hx).1
  have hfar : ∀ k', k' ≠ gf → (w.setCell ⟨gf, o + j * 5 + 3, none⟩ (.int .i64 k)).heap[k']? = w.heap[k']? := fun k' hk' => Below.heap_setCell _ _ _ _ hk'
  have hcell : ∀ a u, w.cell? ⟨g, a, none⟩ = some u → (w.setCell ⟨gf, o + j * 5 + 3, none⟩ (.int .i64 k)).cell? ⟨g, a, none⟩ = some u := fun a u hu => cell_same hcells ((hfar g hne).trans hcells) hu
  have hself : MsgAt (w.setCell ⟨gf, o + j * 5 + 3, none⟩ (.int .i64 k)) B g i (⟨x.1.f0, x.1.f1.set j (putK f k), x.1.f2⟩, x.2.1, x.2.2) (.slice (some ⟨gf, o, none⟩) n c) v2 := by
    refine ⟨hcell _ _ hm.c0, hcell _ _ hm.c1, hcell _ _ hm.c2, ?_, ?_⟩
    · obtain ⟨cs, hcs, hM, hcc, _⟩ := Kd.Q_elem hm.q1 f (j : Int) (by omega) (by omega)
      rw [Int.toNat_natCast, List.getD_eq_getElem?_getD, hj, Option.getD_some] at hM
      have hcs2 := k43_openM hM
      subst hcs2
      have h9 := (Kd.Q_seg (okp := fun _ => False) (x' := putK f k) hm.q1 (j : Int) (by omega) (by omega) (seg := [.int .i64 k]) (j := 3) hcs hcc (show 3 + 1 ≤ 5 by decide) (k43_mkM _ _ _ (putK f k)) (fun _ h => h.elim)).1
      rw [Int.toNat_natCast] at h9
      exact h9
    · refine Kd.Q_mono (Kd.Q_step (Kd.Q_bound hm.q2) (fun k' hk' _ => ?_)) (fun _ hk => hk.1)
      obtain ⟨_, _, _, q, hq, c9, hc9⟩ := hk'
      have hq2 : q = 3 := by simpa [show (Kd.int .i64).E = [] from rfl] using hq
      subst hq2
      exact hfar k' (blk_ne hc9 hcf (by decide))
  refine ⟨⟨⟨cells, (hfar g hne).trans hcells⟩, fun i' x' hx' => ?_⟩, hself⟩
  by_cases hi : i = i'
  · subst hi
    rw [List.getElem?_set_self hil] at hx'
    cases hx'
    exact ⟨_, v2, hself⟩
  · rw [List.getElem?_set_ne hi] at hx'
    obtain ⟨u1, u2, hm'⟩ := h.el i' x' hx'
    have hdis : ¬ (x'.2.1 ≤ gf ∧ gf < x'.2.2) := by
      rw [List.pairwise_iff_getElem] at hap
      obtain ⟨hl1, he1⟩ := List.getElem?_eq_some_iff.1 hx
      obtain ⟨hl2, he2⟩ := List.getElem?_eq_some_iff.1 hx'
      rcases Nat.lt_or_gt_of_ne hi with hlt | hlt
      · have h9 := hap i i' hl1 hl2 hlt
        rw [he1, he2] at h9
        omega
      · have h9 := hap i' i hl2 hl1 hlt
        rw [he1, he2] at h9
        omega
    refine ⟨u1, u2, hcell _ _ hm'.c0, hcell _ _ hm'.c1, hcell _ _ hm'.c2, ?_, ?_⟩
    · exact Kd.Q_step hm'.q1 (fun k' hk' _ => hfar k' (fun e => hdis (e ▸ hk')))
    · exact Kd.Q_step hm'.q2 (fun k' hk' _ => hfar k' (fun e => hdis (e ▸ hk')))
/-- Read. -/
theorem MsgsAt.reads {w : World} {B g : Nat} {X : List Ms} (h : MsgsAt w B g X) (hX : X.length ≤ 9223372036854775807) : k45.C w (some ⟨g, 0, none⟩) (X.map (·.1)).length (X.map (·.1)) := by
  refine ⟨rfl, by rw [List.length_map]; exact hX, fun _ => ⟨_, rfl, fun j p hj => ?_⟩⟩
  rw [List.getElem?_map] at hj
  obtain ⟨x, hx, rfl⟩ := Option.map_eq_some_iff.1 hj
  obtain ⟨v1, v2, hm⟩ := h.el j x hx
  obtain ⟨A1, c1, rfl, _⟩ := Kd.Q_slice hm.q1
  obtain ⟨A2, c2, rfl, _⟩ := Kd.Q_slice hm.q2
  obtain ⟨_, l1, r1⟩ := Kd.Q_reads' hm.q1
  obtain ⟨_, l2, r2⟩ := Kd.Q_reads' hm.q2
  refine ⟨_, rfl, k45_mk w x.1 l1 r1 l2 r2, fun i u hu => ?_⟩
  have hi : i < 3 := (List.getElem?_eq_some_iff.1 hu).1
  rw [add_at, Nat.zero_add]
  rcases i with _ | _ | _ | i
  · cases hu; exact hm.c0
  · cases hu; exact hm.c1
  · cases hu; exact hm.c2
  · omega
end Go.Proofs.YtbfhglaaombglaaDoor
end
section
namespace Go.Proofs.YtbfhglaaombglaaDoor
set_option linter.unusedVariables false
set_option linter.unusedSimpArgs false
open Go.RowKit Go.ChangeMaps
set_option linter.unusedSectionVars false
section
variable {κ ν : Type} [DecidableEq κ]
def ent (kv : κ → Value) (vv : ν → Value) (e : κ × ν × Nat) : MapEntry := ⟨kv e.1, vv e.2.1, e.2.2⟩
/-- What a list of entries holds for a key. -/
def getL (L : List (κ × ν × Nat)) (k : κ) : Option ν := (L.find? (fun e => decide (e.1 = k))).map (·.2.1)
/-- Keys of a type, as values. -/
structure KeyOk (P : Program) (kt : TypeId) (kv : κ → Value) (ok : κ → Prop) : Prop where
  law : Maps.Keyed P kt
  lit : ∀ x, ok x → ∃ l, keyOf P kt (kv x) = some l
  inj : ∀ x y, kv x = kv y → x = y
/-- A map's block is such a list. -/
structure MapRel (kv : κ → Value) (vv : ν → Value) (ok : κ → Prop) (w : World) (b : Nat) (L : List (κ × ν × Nat)) (c : Nat) : Prop where
  blk : w.heap[b]? = some (.map (L.map (ent kv vv)).toArray c)
  keys : L.Pairwise (fun p q => p.1 ≠ q.1)
  oks : ∀ e ∈ L, ok e.1
  born : ∀ e ∈ L, e.2.2 < c
  stamps : L.Pairwise (fun p q => p.2.2 ≠ q.2.2)
variable {P : Program} {kt et t : TypeId} {kv : κ → Value} {vv : ν → Value} {ok : κ → Prop} {w : World} {b c : Nat} {L : List (κ × ν × Nat)}
theorem getL_none {k : κ} (h : ∀ e ∈ L, e.1 ≠ k) : getL L k = none := by
  rw [getL, List.find?_eq_none.2 (fun e he => by simp [h e he])]
  rfl
theorem getL_at (hk : L.Pairwise (fun p q => p.1 ≠ q.1)) {j : Nat} {k : κ} {v : ν} {s : Nat} (h : L[j]? = some (k, v, s)) : getL L k = some v := by
  induction L generalizing j with
  | nil => simp at h
  | cons e l ih =>
    cases j with
    | zero =>
      simp only [List.getElem?_cons_zero, Option.some.injEq] at h
      subst h
      simp [getL]
    | succ j =>
      simp only [List.getElem?_cons_succ] at h
      have hm := List.mem_of_getElem? h
      have hne := (List.pairwise_cons.1 hk).1 _ hm
      have := ih (List.pairwise_cons.1 hk).2 h
      rw [getL] at this ⊢
      rw [List.find?_cons_of_neg (by simpa using hne)]
      exact this
theorem MapRel.find (K : KeyOk P kt kv ok) (h : MapRel kv vv ok w b L c) (k : κ) (hk : ok k) (W : World) :
    ((Instr.findKey kt (kv k) (L.map (ent kv vv))).run P W = .ok none W ∧ (∀ e ∈ L, e.1 ≠ k)) ∨
    ∃ j v s, (Instr.findKey kt (kv k) (L.map (ent kv vv))).run P W = .ok (some (j, vv v)) W ∧ L[j]? = some (k, v, s) := by
  obtain ⟨l, hl⟩ := K.lit k hk
  have hall : ∀ e ∈ L.map (ent kv vv), ∃ l, keyOf P kt e.key = some l := by
    intro e he
    obtain ⟨x, hx, rfl⟩ := List.mem_map.1 he
    exact K.lit x.1 (h.oks x hx)
  rcases K.law.find W hl _ hall with ⟨h1, h2⟩ | ⟨j, e, h1, h2, h3⟩
  · refine .inl ⟨h1, fun e he hek => h2 _ (List.mem_map.2 ⟨e, he, rfl⟩) ?_⟩
    rw [← hek]
    rfl
  · rw [List.getElem?_map] at h2
    obtain ⟨x, hx, rfl⟩ := Option.map_eq_some_iff.1 h2
    obtain ⟨k', v, s⟩ := x
    have : k' = k := K.inj _ _ h3
    subst this
    exact .inr ⟨j, v, s, h1, hx⟩
/-- The world with another map in that block. -/
theorem MapRel.set (hb : b < w.heap.size) {L' : List (κ × ν × Nat)} {c' : Nat} (hk : L'.Pairwise (fun p q => p.1 ≠ q.1)) (ho : ∀ e ∈ L', ok e.1) (hbn : ∀ e ∈ L', e.2.2 < c') (hs : L'.Pairwise (fun p q => p.2.2 ≠ q.2.2)) :
    MapRel kv vv ok (setBlock w b (.map (L'.map (ent kv vv)).toArray c')) b L' c' where
  blk := by simp [setBlock, hb]
  keys := hk
  oks := ho
  born := hbn
  stamps := hs
theorem MapRel.lt (h : MapRel kv vv ok w b L c) : b < w.heap.size := (Array.getElem?_eq_some_iff.1 h.blk).1
theorem MapRel.of_heap (h : MapRel kv vv ok w b L c) {w1 : World} (he : w1.heap[b]? = w.heap[b]?) : MapRel kv vv ok w1 b L c := ⟨he ▸ h.blk, h.keys, h.oks, h.born, h.stamps⟩
theorem pair_set {α β : Type} {f : α → β} {l : List α} (h : l.Pairwise (fun p q => f p ≠ f q)) {j : Nat} {x y : α} (hj : l[j]? = some x) (he : f y = f x) : (l.set j y).Pairwise (fun p q => f p ≠ f q) := by
  have hm : (l.set j y).map f = l.map f := by
    rw [List.map_set, he]
    have : (l.map f)[j]? = some (f x) := by rw [List.getElem?_map, hj]; rfl
    obtain ⟨hl, hx⟩ := List.getElem?_eq_some_iff.1 this
    rw [← hx, List.set_getElem_self]
  have h2 : (l.map f).Pairwise (· ≠ ·) := List.pairwise_map.2 h
  rw [← hm] at h2
  exact List.pairwise_map.1 h2
end
end Go.Proofs.YtbfhglaaombglaaDoor
end
section
namespace Go.Proofs.YtbfhglaaombglaaDoor
set_option linter.unusedVariables false
set_option linter.unusedSimpArgs false
open Go.RowKit Go.ChangeMaps Go.WideMaps Go.Proofs.YtbfhglaaombglaaDoorW.PrintWords
set_option linter.unusedSectionVars false
section
variable {κ ν : Type} [DecidableEq κ]
theorem getL_not {L : List (κ × ν × Nat)} {k : κ} (h : getL L k = none) : ∀ e ∈ L, e.1 ≠ k := by
  intro e he hk
  rw [getL, Option.map_eq_none_iff, List.find?_eq_none] at h
  exact h e he (by simpa using hk)
theorem getL_some {L : List (κ × ν × Nat)} {k : κ} {v : ν} (h : getL L k = some v) : ∃ (j s : Nat), L[j]? = some (k, v, s) := by
  rw [getL, Option.map_eq_some_iff] at h
  obtain ⟨⟨k', v', s⟩, he, rfl⟩ := h
  obtain ⟨j, hj⟩ := List.getElem?_of_mem (List.mem_of_find?_eq_some he)
  have hk := List.find?_some he
  simp only [decide_eq_true_eq] at hk
  subst hk
  exact ⟨j, s, hj⟩
theorem getL_snoc (L : List (κ × ν × Nat)) (k : κ) (v : ν) (s : Nat) (h : getL L k = none) (k' : κ) : getL (L ++ [(k, v, s)]) k' = if k' = k then some v else getL L k' := by
  by_cases hk : k' = k
  · subst hk
    rw [if_pos rfl]
    rw [getL, Option.map_eq_none_iff] at h
    rw [getL, List.find?_append, h]
    simp
  · rw [if_neg hk, getL, getL, List.find?_append]
    have : [(k, v, s)].find? (fun e => decide (e.1 = k')) = none := by simp [Ne.symm hk]
    rw [this, Option.or_none]
theorem getL_set {L : List (κ × ν × Nat)} {j : Nat} {k : κ} {v v' : ν} {s : Nat} (hk : L.Pairwise (fun p q => p.1 ≠ q.1)) (hj : L[j]? = some (k, v, s)) (k' : κ) : getL (L.set j (k, v', s)) k' = if k' = k then some v' else getL L k' := by
  have hjl := (List.getElem?_eq_some_iff.1 hj).1
  have hk2 := pair_set (f := fun e : κ × ν × Nat => e.1) hk hj (y := (k, v', s)) rfl
  by_cases he : k' = k
  · subst he
    rw [if_pos rfl]
    exact getL_at hk2 (j := j) (s := s) (by rw [List.getElem?_set_self hjl])
  · rw [if_neg he]
    cases hg : getL L k' with
    | none =>
      apply getL_none
      intro e hm
      rcases List.mem_or_eq_of_mem_set hm with hm | hm
      · exact getL_not hg e hm
      · rw [hm]; exact fun h => he h.symm
    | some x =>
      obtain ⟨j', s', hj'⟩ := getL_some hg
      have hne : j ≠ j' := by
        intro e
        subst e
        rw [hj] at hj'
        exact he (congrArg (fun x => x.1) (Option.some.inj hj')).symm
      exact getL_at hk2 (j := j') (s := s') (by rw [List.getElem?_set_ne hne]; exact hj')
variable {P : Program} {kt et t : TypeId} {kv : κ → Value} {vv : ν → Value} {ok : κ → Prop} {w : World} {b c : Nat} {L : List (κ × ν × Nat)}
theorem MapRel.lookup1 (K : KeyOk P kt kv ok) (h : MapRel kv vv ok w b L c) (ht : P.underlying t = some (.map kt et)) {z : Value} (hz : ∀ W, (zeroValue et).run P W = .ok z W) (k : κ) (hk : ok k) :
    (Instr.lookup t (.map (some b)) (kv k) false).run P w = .ok (((getL L k).map vv).getD z) w := by
  obtain ⟨l, hl⟩ := K.lit k hk
  rcases h.find K k hk w with ⟨h1, h2⟩ | ⟨j, v, s, h1, h2⟩
  · rw [getL_none h2]
    simp [Instr.lookup, run_underlying ht, MapKept.run_getObj_map h.blk, K.law.check w _ hl, h1, hz, Result.andThen]
  · rw [getL_at h.keys h2]
    simp [Instr.lookup, run_underlying ht, MapKept.run_getObj_map h.blk, K.law.check w _ hl, h1, Result.andThen]
/-- m[k] = v. -/
theorem MapRel.update (K : KeyOk P kt kv ok) (h : MapRel kv vv ok w b L c) (ht : P.underlying t = some (.map kt et)) (k : κ) (hk : ok k) (v' : ν) :
    ∃ w1 L' c', (Instr.mapUpdate t (.map (some b)) (kv k) (vv v')).run P w = .ok () w1 ∧ w1 = setBlock w b (.map (L'.map (ent kv vv)).toArray c') ∧ MapRel kv vv ok w1 b L' c' ∧ ∀ k', getL L' k' = if k' = k then some v' else getL L k' := by
  obtain ⟨l, hl⟩ := K.lit k hk
  rcases h.find K k hk w with ⟨h1, h2⟩ | ⟨j, v, s, h1, h2⟩
  · refine ⟨_, L ++ [(k, v', c)], c + 1, ?_, rfl, MapRel.set h.lt ?_ ?_ ?_ ?_, getL_snoc L k v' c (getL_none h2)⟩
    · simp [Instr.mapUpdate, run_underlying ht, MapKept.run_getObj_map h.blk, K.law.check w _ hl, h1, MapKept.run_setObj_map _ h.blk, Result.andThen, setBlock, ent]
    · refine List.pairwise_append.2 ⟨h.keys, List.pairwise_singleton _ _, fun x hx y hy => ?_⟩
      rw [List.mem_singleton.1 hy]
      exact h2 x hx
    · intro e he
      rcases List.mem_append.1 he with he | he
      · exact h.oks e he
      · rw [List.mem_singleton.1 he]; exact hk
    · intro e he
      rcases List.mem_append.1 he with he | he
      · have := h.born e he; omega
      · rw [List.mem_singleton.1 he]; exact Nat.lt_succ_self c
    · refine List.pairwise_append.2 ⟨h.stamps, List.pairwise_singleton _ _, fun x hx y hy => ?_⟩
      rw [List.mem_singleton.1 hy]
      have := h.born x hx
      simp only
      omega
  · have hjl := (List.getElem?_eq_some_iff.1 h2).1
    have hel : (L.map (ent kv vv)).toArray[j]? = some (ent kv vv (k, v, s)) := by simp [h2]
    have hmod : (L.map (ent kv vv)).toArray.modify j (fun e => { e with key := kv k, val := vv v' }) = ((L.set j (k, v', s)).map (ent kv vv)).toArray := by
      apply Array.ext_getElem?
      intro i
      rw [Array.getElem?_modify]
      by_cases hi : j = i
      · subst hi
        rw [if_pos rfl, hel]
        simp [hjl, ent]
      · rw [if_neg hi]
        simp [List.getElem?_set_ne hi]
    refine ⟨_, L.set j (k, v', s), c, ?_, rfl, MapRel.set h.lt (pair_set (f := fun e : κ × ν × Nat => e.1) h.keys h2 rfl) ?_ ?_ (pair_set (f := fun e : κ × ν × Nat => e.2.2) h.stamps h2 rfl), getL_set h.keys h2⟩
    · have hst := K.law.stays w hl
      simp only [Instr.mapUpdate, Sem.run_bind, run_underlying ht, MapKept.run_getObj_map h.blk, K.law.check w _ hl, h1, Result.andThen, hel, Option.map_some, Option.getD_some]
      simp only [ent] at hst ⊢
      simp only [hst, MapKept.run_setObj_map _ h.blk, Sem.run_bind, Sem.run_pure, Result.andThen, setBlock]
      rw [hmod]
    · intro e he
      rcases List.mem_or_eq_of_mem_set he with he | he
      · exact h.oks e he
      · rw [he]; exact hk
    · intro e he
      rcases List.mem_or_eq_of_mem_set he with he | he
      · exact h.born e he
      · rw [he]; exact h.born (k, v, s) (List.mem_of_getElem? h2)
end
theorem below_setBlock {B m : Nat} {a w : World} (h : Below B a w) (hm : B ≤ m) (o : Obj) : Below B a (setBlock w m o) :=
  h.trans ⟨rfl, rfl, rfl, by simp [setBlock], fun k hk => by
    simp only [setBlock]
    rw [Array.getElem?_setIfInBounds_ne (by omega)]⟩
def okS (s : ByteArray) : Prop := s.size ≤ 9223372036854775807
theorem keyS : KeyOk Tryd.prog 9 Value.string okS where
  law := Maps.Keyed.of_law (string_law Tryd.underlying9)
  lit := fun x hx => ⟨_, keyOf_string_mk Tryd.underlying9 (by unfold maxLen; exact hx)⟩
  inj := fun x y h => by simpa using h
end Go.Proofs.YtbfhglaaombglaaDoor
end
section
namespace Go.Proofs.YtbfhglaaombglaaDoor
set_option linter.unusedVariables false
set_option linter.unusedSimpArgs false
open Go.RowKit Go.ChangeMaps Go.Proofs.YtbfhglaaombglaaDoorW.PrintWords Go.Proofs.YtbfhglaaombglaaDoorW.PrintMore Go.Proofs.YtbfhglaaombglaaDoor.PIdlParses
/-- Is a name an enumeration's? -/
def inE (es : List S68) (k : ByteArray) : Bool := es.any (fun e => decide (e.f0 = k))
def r1 (es : List S68) (f : S43) : S43 := if f.f3.f0 = 7 ∧ inE es f.f3.f1 = true then putK f 6 else f
def rM (es : List S68) (x : Ms) : Ms := (⟨x.1.f0, x.1.f1.map (r1 es), x.1.f2⟩, x.2.1, x.2.2)
/-- The first i of them are resolved. -/
structure Upto (es : List S68) (X0 X : List Ms) (i : Nat) : Prop where
  len : X.length = X0.length
  el : ∀ i' x, X0[i']? = some x → X[i']? = some (if i' < i then rM es x else x)
theorem Upto.pair {es : List S68} {X0 X : List Ms} {i : Nat} (h : Upto es X0 X i) (hp : X0.Pairwise (fun a b => a.2.2 ≤ b.2.1)) : X.Pairwise (fun a b => a.2.2 ≤ b.2.1) := by
  rw [List.pairwise_iff_getElem] at hp ⊢
  intro a b ha hb hab
  have ha0 : a < X0.length := by rw [← h.len]; exact ha
  have hb0 : b < X0.length := by rw [← h.len]; exact hb
  have h1 := h.el a _ (List.getElem?_eq_getElem ha0)
  have h2 := h.el b _ (List.getElem?_eq_getElem hb0)
  rw [List.getElem?_eq_getElem ha] at h1
  rw [List.getElem?_eq_getElem hb] at h2
  rw [Option.some.inj h1, Option.some.inj h2]
  have := hp a b ha0 hb0 hab
  split <;> split <;> exact this
theorem Upto.zero (es : List S68) (X0 : List Ms) : Upto es X0 X0 0 := ⟨rfl, fun i' x h => by rw [if_neg (by omega)]; exact h⟩
theorem Upto.all {es : List S68} {X0 X : List Ms} (h : Upto es X0 X X0.length) : X = X0.map (rM es) := by
  apply List.ext_getElem?
  intro i
  rw [List.getElem?_map]
  cases hx : X0[i]? with
  | none => rw [Option.map_none, List.getElem?_eq_none]; rw [h.len]; exact List.getElem?_eq_none_iff.1 hx
  | some x =>
    have := h.el i x hx
    rw [if_pos (List.getElem?_eq_some_iff.1 hx).1] at this
    exact this
/-- The first j fields of one are resolved. -/
structure UptoF (es : List S68) (F0 F : List S43) (j : Nat) : Prop where
  len : F.length = F0.length
  el : ∀ j' x, F0[j']? = some x → F[j']? = some (if j' < j then r1 es x else x)
theorem UptoF.zero (es : List S68) (F0 : List S43) : UptoF es F0 F0 0 := ⟨rfl, fun i' x h => by rw [if_neg (by omega)]; exact h⟩
theorem UptoF.all {es : List S68} {F0 F : List S43} (h : UptoF es F0 F F0.length) : F = F0.map (r1 es) := by
  apply List.ext_getElem?
  intro i
  rw [List.getElem?_map]
  cases hx : F0[i]? with
  | none => rw [Option.map_none, List.getElem?_eq_none]; rw [h.len]; exact List.getElem?_eq_none_iff.1 hx
  | some x =>
    have := h.el i x hx
    rw [if_pos (List.getElem?_eq_some_iff.1 hx).1] at this
    exact this
theorem UptoF.same {es : List S68} {F0 F : List S43} {j : Nat} (h : UptoF es F0 F j) {f : S43} (hf : F0[j]? = some f) (hr : r1 es f = f) : UptoF es F0 F (j + 1) :=
  ⟨h.len, fun j' x hx => by
    rw [h.el j' x hx]
    by_cases h1 : j' < j
    · rw [if_pos h1, if_pos (by omega)]
    · by_cases h2 : j' = j
      · subst h2
        rw [hf] at hx
        cases hx
        rw [if_neg h1, if_pos (by omega), hr]
      · rw [if_neg h1, if_neg (by omega)]⟩
theorem UptoF.put {es : List S68} {F0 F : List S43} {j : Nat} (h : UptoF es F0 F j) {f : S43} (hf : F0[j]? = some f) (hr : r1 es f = putK f 6) : UptoF es F0 (F.set j (putK f 6)) (j + 1) :=
  ⟨by rw [List.length_set]; exact h.len, fun j' x hx => by
    have hjl : j < F.length := by rw [h.len]; exact (List.getElem?_eq_some_iff.1 hf).1
    by_cases h2 : j' = j
    · subst h2
      rw [hf] at hx
      cases hx
      rw [List.getElem?_set_self hjl, if_pos (by omega), hr]
    · rw [List.getElem?_set_ne (fun e => h2 e.symm), h.el j' x hx]
      by_cases h1 : j' < j
      · rw [if_pos h1, if_pos (by omega)]
      · rw [if_neg h1, if_neg (by omega)]⟩
/-- What resolve may not change. -/
def ResFr (w w1 : World) : Prop := ∀ (k : Nat) (c : Array Value) (t : TypeId), w.heap[k]? = some (.cells c t (0, 0)) → t ≠ 43 → w1.heap[k]? = some (.cells c t (0, 0))
theorem ResFr.of_below {w w1 : World} (h : Below w.heap.size w w1) : ResFr w w1 := fun k c t hk _ => (h.block k (blk_lt hk)).trans hk
theorem ResFr.trans {w w1 w2 : World} (h : ResFr w w1) (k : ResFr w1 w2) : ResFr w w2 := fun x c t hx ht => k x c t (h x c t hx ht) ht
/-- The map of names. -/
def EMap (w : World) (mb : Nat) (es : List S68) : Prop := ∃ L c, MapRel Value.string Value.bool okS w mb L c ∧ ∀ k, getL L k = if inE es k then some true else none
theorem EMap.of_heap {w w1 : World} {mb : Nat} {es : List S68} (h : EMap w mb es) (he : w1.heap[mb]? = w.heap[mb]?) : EMap w1 mb es := by
  obtain ⟨L, c, h1, h2⟩ := h
  exact ⟨L, c, h1.of_heap he, h2⟩
theorem EMap.below {w w1 : World} {mb : Nat} {es : List S68} (h : EMap w mb es) (hb : Below w.heap.size w w1) : EMap w1 mb es := by
  obtain ⟨L, c, h1, h2⟩ := h
  exact ⟨L, c, h1.of_heap (hb.block _ h1.lt), h2⟩
theorem EMap.isMap {w : World} {mb : Nat} {es : List S68} (h : EMap w mb es) : ∃ c n, w.heap[mb]? = some (.map c n) := by
  obtain ⟨L, c, h1, _⟩ := h
  exact ⟨_, _, h1.blk⟩
theorem zeroBool : ∀ W, (zeroValue 4).run Tryd.prog W = .ok (.bool false) W := by
  intro W
  obtain ⟨i, hi, hz, _⟩ := info_parts (show (Tryd.prog.info? 4).map (fun i => (i.zero, i.size, i.bytes)) = some (some (.bool false), 1, 1) by kernel_rfl)
  simp [zeroValue, typeInfo, hi, hz]
theorem inE_snoc (es : List S68) (e : S68) (k : ByteArray) : inE (es ++ [e]) k = (inE es k || decide (e.f0 = k)) := by simp [inE]
set_option maxRecDepth 100000 in
set_option maxHeartbeats 4000000 in
theorem resolve_any (w : World) (B g gm ge : Nat) (nm : ByteArray) (Am Ae : Option Addr) (cm ce : Nat) (vT : Value) (X0 : List Ms) (es : List S68)
    (hk : w.heap[g]? = some (.cells #[.string nm, .slice Am X0.length cm, .slice Ae es.length ce, vT] 27 (0, 0)))
    (hm : 0 < X0.length → Am = some ⟨gm, 0, none⟩ ∧ MsgsAt w B gm X0) (hap : X0.Pairwise (fun a b => a.2.2 ≤ b.2.1)) (hX : X0.length ≤ 9223372036854775807) (hF : ∀ x ∈ X0, x.1.f1.length ≤ 9223372036854775807 ∧ ∀ f ∈ x.1.f1, f.f3.f1.size ≤ 16384)
    (he : k68.R 68 w B (fun _ => True) (.slice Ae es.length ce) es) (hE : es.length ≤ 9223372036854775807) (hes : ∀ e ∈ es, e.f0.size ≤ 16384) (hB : B ≤ w.heap.size) :
    Calls Tryd.prog 17 #[.pointer (some ⟨g, 0, none⟩)] w fun e w' => e = .returned (.tuple #[]) ∧ Aside0 (0 < X0.length → MsgsAt w' B gm (X0.map (rM es))) ∧ Aside0 (Below B w w') ∧ Aside0 (ResFr w w') := by
  have HK := Aside0.mk hk
  have HM := Aside0.mk hm
  have HAP := Aside0.mk hap
  have HFF := Aside0.mk hF
  have HE := Aside0.mk he
  have HES := Aside0.mk hes
  have hmm := @run_makeMap Tryd.prog
  clear hk hm hap hF he hes
  go_enter Tryd.func17, Tryd.ntmps17
  go_upto_region 1 with fail
  change Code.wp _ _ _ _ (w.alloc (.map #[] 0))
  have hb1 : Below w.heap.size w (w.alloc (.map #[] 0)) := (Below.refl _ _).alloc (Nat.le_refl _) _
  have HEM1 : Aside0 (EMap (w.alloc (.map #[] 0)) w.heap.size []) := ⟨[], 0, ⟨heap_alloc_new w (.map #[] 0), List.Pairwise.nil, by simp, by simp, List.Pairwise.nil⟩, fun k => rfl⟩
  have HB1 := Aside0.mk hb1
  obtain ⟨mb, hmb⟩ : ∃ x, w.heap.size = x := ⟨_, rfl⟩
  obtain ⟨w1, hw1⟩ : ∃ x, w.alloc (.map #[] 0) = x := ⟨_, rfl⟩
  rw [hmb, hw1] at HEM1
  rw [hw1] at HB1 ⊢
  simp only [hmb]
  have HMB := Aside0.mk hmb
  clear hw1 hmb hb1
  have c2 : w1.cell? ⟨g, 2, none⟩ = some (.slice Ae es.length ce) := blk_cell ((HB1.out.block _ (blk_lt HK.out)).trans HK.out) 2
  go_wp2_with fail
  go_loopw [15] (fun u wr => ∃ j : Nat, u = .int .i64 (j : Int) ∧ j ≤ es.length ∧ Aside0 (EMap wr mb (es.take j)) ∧ Aside0 (Below w.heap.size w wr)) (fun u _ => es.length - (intOf u).toNat)
  case atStart => exact ⟨0, rfl, Nat.zero_le _, HEM1, HB1⟩
  case round =>
    obtain ⟨j, rfl, hj, HEM, HB⟩ := hrel
    by_cases hlt : j < es.length
    · have d1 : decide ((j : Int) < (es.length : Int)) = true := decide_eq_true (by omega)
      have d2 : decide (j < es.length) = true := decide_eq_true hlt
      have d3 : (j : Int) < (es.length : Int) := by omega
      obtain ⟨x, hx⟩ : ∃ x, es[j]? = some x := ⟨_, List.getElem?_eq_getElem hlt⟩
      have hr := Kd.R_below HE.out HB.out
      obtain ⟨A9, c9, e9, _, hC⟩ := Kd.R_reads hr
      injection e9 with e1 _ _
      subst e1
      obtain ⟨ad, had, _⟩ := hC.2.2 (by omega)
      subst had
      obtain ⟨g9, rfl⟩ := Kd.R_head hr
      obtain ⟨cs, _, hM, hcc⟩ := Kd.R_get hr x (j : Int) (by omega) (by omega)
      rw [Int.toNat_natCast] at hM hcc
      rw [List.getD_eq_getElem?_getD, hx, Option.getD_some] at hM
      obtain ⟨v1, rfl, h1⟩ := k68_openM hM
      obtain ⟨A1, c1, rfl⟩ := Kd.R_slice h1
      have a0 := hcc 0 _ rfl
      have a1 := hcc 1 _ rfl
      rw [add_at, Nat.zero_add] at a0 a1
      have a0' : wr.cell? ⟨g9, j * 2, none⟩ = some (.string x.f0) := a0
      have a1' : wr.cell? ⟨g9, j * 2 + 1, none⟩ = some (.slice A1 x.f1.length c1) := a1
      obtain ⟨n1, hn1⟩ : ∃ n, x.f1.length = n := ⟨_, rfl⟩
      rw [hn1] at a1'
      have hxs : okS x.f0 := by have := HES.out x (List.mem_of_getElem? hx); unfold okS; omega
      have hbA : Below wr.heap.size wr (wr.alloc (.cells #[.string x.f0, .slice A1 n1 c1] 68)) := (Below.refl _ _).alloc (Nat.le_refl _) _
      obtain ⟨L, cL, hL, hg⟩ := HEM.out.below hbA
      obtain ⟨w3, L', c', hup, hw3, hL', hg'⟩ := hL.update keyS Tryd.underlying83 x.f0 hxs true
      have hmbl : w.heap.size ≤ mb := Nat.le_of_eq HMB.out
      have HB3 : Aside0 (Below w.heap.size w w3) := ⟨by rw [hw3]; exact below_setBlock (HB.out.trans (hbA.mono HB.out.size)) hmbl _⟩
      have HEM3 : Aside0 (EMap w3 mb (es.take (j + 1))) := ⟨L', c', hL', fun k => by
        rw [hg' k, hg k, List.take_add_one, hx, Option.toList_some, inE_snoc]
        by_cases h9 : k = x.f0
        · subst h9; simp
        · rw [if_neg h9, decide_eq_false (fun e => h9 e.symm), Bool.or_false]⟩
      clear hx hr hC hM hcc a0 a1 h1 hbA hL hg hw3 hL' hg' hn1 hxs hmbl
      go_wp2_with fail
      go_roundw
      case rel => exact ⟨j + 1, by go_num, by omega, HEM3, HB3⟩
      case measure => simp [intOf]; omega
    · have d1 : decide ((j : Int) < (es.length : Int)) = false := decide_eq_false (by omega)
      have d2 : decide (j < es.length) = false := decide_eq_false hlt
      have HEM2 : Aside0 (EMap wr mb es) := ⟨by
        have h9 := HEM.out
        rw [List.take_of_length_le (by omega)] at h9
        exact h9⟩
      obtain ⟨w2, hw2⟩ : ∃ x, x = wr := ⟨_, rfl⟩
      subst hw2
      have cx : w2.cell? ⟨g, 1, none⟩ = some (.slice Am X0.length cm) := blk_cell ((HB.out.block _ (blk_lt HK.out)).trans HK.out) 1
      clear HEM HEM1 HB1 c2 hlt hj
      go_wp2_with fail
      go_loopw [28] (fun u wr => ∃ (i : Nat) (X : List Ms), u = .int .i64 (i : Int) ∧ i ≤ X0.length ∧ Aside0 (Upto es X0 X i) ∧ Aside0 (0 < X0.length → MsgsAt wr B gm X) ∧ Aside0 (EMap wr mb es) ∧ Aside0 (Below B w wr) ∧ Aside0 (ResFr w wr)) (fun u _ => X0.length - (intOf u).toNat)
      case atStart => exact ⟨0, X0, rfl, Nat.zero_le _, ⟨Upto.zero es X0⟩, ⟨fun h9 => (HM.out h9).2.step (MsgFr.of_below HB.out)⟩, HEM2, ⟨HB.out.mono hB⟩, ⟨ResFr.of_below HB.out⟩⟩
      case round =>
        obtain ⟨i, X, rfl, hi, HU, HMs, HEMr, HBr, HFr⟩ := hrel
        obtain ⟨wo, hwo⟩ : ∃ x, x = wr := ⟨_, rfl⟩
        subst hwo
        clear HEM2 HB cx
        by_cases hlt : i < X0.length
        · have d1 : decide ((i : Int) < (X0.length : Int)) = true := decide_eq_true (by omega)
          have d2 : decide (i < X0.length) = true := decide_eq_true hlt
          have d3 : (i : Int) < (X0.length : Int) := by omega
          have hA := (HM.out (by omega)).1
          subst hA
          obtain ⟨x0, hx0⟩ : ∃ x, X0[i]? = some x := ⟨_, List.getElem?_eq_getElem hlt⟩
          have hX0 := HU.out.el i x0 hx0
          rw [if_neg (Nat.lt_irrefl i)] at hX0
          have hms := HMs.out (by omega)
          obtain ⟨v1, v2, hma⟩ := hms.el i x0 hX0
          obtain ⟨A1, k1, rfl, _⟩ := Kd.Q_slice hma.q1
          obtain ⟨A2, k2, rfl, _⟩ := Kd.Q_slice hma.q2
          obtain ⟨n1, hn1⟩ : ∃ n, x0.1.f1.length = n := ⟨_, rfl⟩
          obtain ⟨n2, hn2⟩ : ∃ n, x0.1.f2.length = n := ⟨_, rfl⟩
          rw [hn1, hn2] at hma
          have a0 := hma.c0
          have a1 := hma.c1
          have a2 := hma.c2
          have hff := HFF.out x0 (List.mem_of_getElem? hx0)
          have HN1 := Aside0.mk hn1
          have HX0 := Aside0.mk hx0
          have HXI := Aside0.mk hX0
          have hn1l : n1 ≤ 9223372036854775807 := by rw [← hn1]; exact hff.1
          have HFT := Aside0.mk hff.2
          have hbA : Below wo.heap.size wo (wo.alloc (.cells #[.string x0.1.f0, .slice A1 n1 k1, .slice A2 n2 k2] 45)) := (Below.refl _ _).alloc (Nat.le_refl _) _
          have hk9 := heap_alloc_new wo (.cells #[.string x0.1.f0, .slice A1 n1 k1, .slice A2 n2 k2] 45)
          have hma2 := hma.step hms.blk (MsgFr.of_below hbA)
          have hms2 := hms.step (MsgFr.of_below hbA)
          have hem2 := HEMr.out.below hbA
          have hbB := HBr.out.trans (hbA.mono (Nat.le_trans hB HBr.out.size))
          have hfr2 := HFr.out.trans (ResFr.of_below hbA)
          have hgsB : B ≤ wo.heap.size := Nat.le_trans hB HBr.out.size
          clear hff hn1 hn2 hx0 hX0 hms hma
          go_upto_region 9 with fail
          change Code.wp _ _ _ _ (wo.alloc (.cells #[.string x0.1.f0, .slice A1 n1 k1, .slice A2 n2 k2] 45))
          obtain ⟨gs, hgs⟩ : ∃ x, wo.heap.size = x := ⟨_, rfl⟩
          obtain ⟨ws, hws⟩ : ∃ x, wo.alloc (.cells #[.string x0.1.f0, .slice A1 n1 k1, .slice A2 n2 k2] 45) = x := ⟨_, rfl⟩
          rw [hgs] at hk9 hgsB
          rw [hws] at hk9 hma2 hms2 hem2 hbB hfr2 ⊢
          simp only [hgs]
          have HKS := Aside0.mk hk9
          have HMA := Aside0.mk hma2
          have HMS := Aside0.mk hms2
          have HEM3 := Aside0.mk hem2
          have HB3 := Aside0.mk hbB
          have HFR3 := Aside0.mk hfr2
          have HGS := Aside0.mk hgs
          clear hws hgs hk9 hma2 hms2 hem2 hbB hfr2 hbA a0 a1 a2
          have b1 : ws.cell? ⟨gs, 1, none⟩ = some (.slice A1 n1 k1) := blk_cell HKS.out 1
          go_wp2_with fail
          go_loopw [35] (fun u wr => ∃ (j : Nat) (F : List S43), u = .int .i64 (j : Int) ∧ j ≤ n1 ∧ Aside0 (UptoF es x0.1.f1 F j) ∧ Aside0 (MsgsAt wr B gm (X.set i (⟨x0.1.f0, F, x0.1.f2⟩, x0.2.1, x0.2.2))) ∧ Aside0 (MsgAt wr B gm i (⟨x0.1.f0, F, x0.1.f2⟩, x0.2.1, x0.2.2) (.slice A1 n1 k1) (.slice A2 n2 k2)) ∧ Aside0 (EMap wr mb es) ∧ Aside0 (Below B w wr) ∧ Aside0 (ResFr w wr) ∧ Aside0 (wr.heap[gs]? = some (.cells #[.string x0.1.f0, .slice A1 n1 k1, .slice A2 n2 k2] 45 (0, 0)))) (fun u _ => n1 - (intOf u).toNat)
          case atStart =>
            refine ⟨0, x0.1.f1, rfl, Nat.zero_le _, ⟨UptoF.zero es _⟩, ⟨?_⟩, HMA, HEM3, HB3, HFR3, HKS⟩
            have h9 : X.set i x0 = X := by
              obtain ⟨hl9, he9⟩ := List.getElem?_eq_some_iff.1 HXI.out
              rw [← he9, List.set_getElem_self]
            have h8 : (((⟨x0.1.f0, x0.1.f1, x0.1.f2⟩ : S45), x0.2.1, x0.2.2) : Ms) = x0 := rfl
            rw [h8, h9]
            exact HMS.out
          case round =>
            obtain ⟨j, F, rfl, hj, HUF, HMS4, HMA4, HEM4, HB4, HFR4, HKS4⟩ := hrel
            clear HKS HMA HMS HEM3 HB3 HFR3 b1
            have b1 : wr.cell? ⟨gs, 1, none⟩ = some (.slice A1 n1 k1) := blk_cell HKS4.out 1
            by_cases hjl : j < n1
            · have e1 : decide ((j : Int) < (n1 : Int)) = true := decide_eq_true (by omega)
              have e2 : decide (j < n1) = true := decide_eq_true hjl
              have e3 : (j : Int) < (n1 : Int) := by omega
              obtain ⟨hnF, _, _⟩ := Kd.Q_reads' HMA4.out.q1
              obtain ⟨gf, o, cap, hv, _⟩ := Kd.Q_form HMA4.out.q1 (by rw [← hnF]; omega)
              injection hv with hv hv2 hv3
              clear hv2 hv3
              subst hv
              obtain ⟨f, hf⟩ : ∃ f, x0.1.f1[j]? = some f := ⟨_, List.getElem?_eq_getElem (by rw [HN1.out]; exact hjl)⟩
              have hFj := HUF.out.el j f hf
              rw [if_neg (Nat.lt_irrefl j)] at hFj
              obtain ⟨cs, hcs, hM, hcc, hfz⟩ := Kd.Q_elem HMA4.out.q1 f (j : Int) (by omega) (by omega)
              rw [Int.toNat_natCast] at hcc hM hfz
              rw [List.getD_eq_getElem?_getD] at hM
              have hM2 : k43.M wr B _ (F[j]?.getD f) cs := hM
              rw [hFj, Option.getD_some] at hM2
              have hcs2 := k43_openM hM2
              subst hcs2
              have k3 : wr.cell? ⟨gf, o + j * 5 + 3, none⟩ = some (.int .i64 f.f3.f0) := hcc 3 _ rfl
              have k4 : wr.cell? ⟨gf, o + j * 5 + 4, none⟩ = some (.string f.f3.f1) := hcc 4 _ rfl
              have k4' : wr.cell? ⟨gf, o + j * 5 + 3 + 1, none⟩ = some (.string f.f3.f1) := k4
              have z3 : wr.frozen? ⟨gf, o + j * 5 + 3, none⟩ = false := hfz 3
              have hft : okS f.f3.f1 := by have := HFT.out f (List.mem_of_getElem? hf); unfold okS; omega
              have HF9 := Aside0.mk hf
              have HFJ := Aside0.mk hFj
              clear hM hM2 hcc hcs hfz hf hFj hnF
              by_cases h7 : f.f3.f0 = 7
              · have e7 : (f.f3.f0 == 7) = true := beq_iff_eq.2 h7
                obtain ⟨L, cL, hL, hg⟩ := HEM4.out
                have hlk := hL.lookup1 keyS Tryd.underlying83 zeroBool f.f3.f1 hft
                rw [hg] at hlk
                cases hin : inE es f.f3.f1 with
                | true =>
                  rw [hin] at hlk
                  simp only [if_true, Option.map_some, Option.getD_some] at hlk
                  have hr1 : r1 es f = putK f 6 := by rw [r1, if_pos ⟨h7, hin⟩]
                  obtain ⟨hp1, hp2⟩ := HMS4.out.put (show (X.set i (⟨x0.1.f0, F, x0.1.f2⟩, x0.2.1, x0.2.2)).Pairwise _ from by
                    have hup := HU.out.pair HAP.out
                    rw [List.pairwise_iff_getElem] at hup ⊢
                    intro a b ha hb hab
                    rw [List.length_set] at ha hb
                    have h8 := hup a b ha hb hab
                    obtain ⟨hl9, he9⟩ := List.getElem?_eq_some_iff.1 HXI.out
                    rw [List.getElem_set, List.getElem_set]
                    split
                    · rename_i hia
                      subst hia
                      rw [if_neg (by omega)]
                      rw [he9] at h8
                      exact h8
                    · split
                      · rename_i hib
                        subst hib
                        rw [he9] at h8
                        exact h8
                      · exact h8) (i := i) (by rw [List.getElem?_set_self (List.getElem?_eq_some_iff.1 HXI.out).1]) HMA4.out HFJ.out 6
                  have hset : (X.set i (⟨x0.1.f0, F, x0.1.f2⟩, x0.2.1, x0.2.2)).set i (⟨x0.1.f0, F.set j (putK f 6), x0.1.f2⟩, x0.2.1, x0.2.2) = X.set i (⟨x0.1.f0, F.set j (putK f 6), x0.1.f2⟩, x0.2.1, x0.2.2) := by rw [List.set_set]
                  have hp1' : MsgsAt (wr.setCell ⟨gf, o + j * 5 + 3, none⟩ (.int .i64 6)) B gm (X.set i (⟨x0.1.f0, F.set j (putK f 6), x0.1.f2⟩, x0.2.1, x0.2.2)) := by rw [← hset]; exact hp1
                  obtain ⟨cgf, hcgf⟩ := Kd.Q_typed HMA4.out.q1 gf rfl
                  have hgfB : B ≤ gf := Kd.Q_base HMA4.out.q1 gf rfl
                  have hmbgf : mb ≠ gf := by
                    obtain ⟨c8, n8, h8⟩ := HEM4.out.isMap
                    intro e
                    rw [e, hcgf] at h8
                    cases h8
                  have HP1 := Aside0.mk hp1'
                  have HP2 := Aside0.mk hp2
                  have HEM5 : Aside0 (EMap (wr.setCell ⟨gf, o + j * 5 + 3, none⟩ (.int .i64 6)) mb es) := ⟨HEM4.out.of_heap (Below.heap_setCell _ _ _ _ hmbgf)⟩
                  have HB5 := Aside0.mk (HB4.out.setCell (p := ⟨gf, o + j * 5 + 3, none⟩) hgfB (.int .i64 6))
                  have HFR5 : Aside0 (ResFr w (wr.setCell ⟨gf, o + j * 5 + 3, none⟩ (.int .i64 6))) := ⟨HFR4.out.trans (fun k8 c8 t8 h8 ht8 => by
                    rw [Below.heap_setCell _ _ _ _ (fun e => ?_)]
                    · exact h8
                    · have e' : k8 = gf := e
                      rw [e', hcgf] at h8
                      injection h8 with h8
                      injection h8 with _ h8
                      exact ht8 h8.symm)⟩
                  have HKS5 := Aside0.mk (blk_far HKS4.out (p := ⟨gf, o + j * 5 + 3, none⟩) (blk_ne HKS4.out hcgf (by decide)) (.int .i64 6))
                  have HUF5 := Aside0.mk (HUF.out.put HF9.out hr1)
                  clear hL hg hp1 hp1' hp2 hset hcgf hgfB hmbgf hin hr1 h7
                  go_wp2_with fail
                  go_roundw
                  case rel => exact ⟨j + 1, F.set j (putK f 6), by go_num, by omega, HUF5, HP1, HP2, HEM5, HB5, HFR5, HKS5⟩
                  case measure => simp [intOf]; omega
                | false =>
                  rw [hin] at hlk
                  simp only [Bool.false_eq_true, if_false, Option.map_none, Option.getD_none] at hlk
                  have hr1 : r1 es f = f := by rw [r1, if_neg (fun h => by rw [hin] at h; exact absurd h.2 (by decide))]
                  have HUF5 := Aside0.mk (HUF.out.same HF9.out hr1)
                  clear hL hg hin hr1 h7
                  go_wp2_with fail
                  go_roundw
                  case rel => exact ⟨j + 1, F, by go_num, by omega, HUF5, HMS4, HMA4, HEM4, HB4, HFR4, HKS4⟩
                  case measure => simp [intOf]; omega
              · have e7 : (f.f3.f0 == 7) = false := beq_eq_false_iff_ne.2 h7
                have hr1 : r1 es f = f := by rw [r1, if_neg (fun h => h7 h.1)]
                have HUF5 := Aside0.mk (HUF.out.same HF9.out hr1)
                clear hr1 h7
                go_wp2_with fail
                go_roundw
                case rel => exact ⟨j + 1, F, by go_num, by omega, HUF5, HMS4, HMA4, HEM4, HB4, HFR4, HKS4⟩
                case measure => simp [intOf]; omega
            · have e1 : decide ((j : Int) < (n1 : Int)) = false := decide_eq_false (by omega)
              have e2 : decide (j < n1) = false := decide_eq_false hjl
              have hjn : j = x0.1.f1.length := by rw [HN1.out]; omega
              have HFA : Aside0 (F = x0.1.f1.map (r1 es)) := ⟨(hjn ▸ HUF.out : UptoF es x0.1.f1 F x0.1.f1.length).all⟩
              have HXN : Aside0 (Upto es X0 (X.set i (⟨x0.1.f0, F, x0.1.f2⟩, x0.2.1, x0.2.2)) (i + 1)) := ⟨by
                refine ⟨by rw [List.length_set]; exact HU.out.len, fun i' x' hx' => ?_⟩
                by_cases h2 : i' = i
                · subst h2
                  rw [HX0.out] at hx'
                  cases hx'
                  rw [List.getElem?_set_self (List.getElem?_eq_some_iff.1 HXI.out).1, if_pos (Nat.lt_succ_self _), rM, HFA.out]
                · rw [List.getElem?_set_ne (fun e => h2 e.symm), HU.out.el i' x' hx']
                  by_cases h1 : i' < i
                  · rw [if_pos h1, if_pos (by omega)]
                  · rw [if_neg h1, if_neg (by omega)]⟩
              have HMN : Aside0 (0 < X0.length → MsgsAt wr B gm (X.set i (⟨x0.1.f0, F, x0.1.f2⟩, x0.2.1, x0.2.2))) := ⟨fun _ => HMS4.out⟩
              clear hjn
              go_wp2_with fail
              go_roundw
              case rel => exact ⟨i + 1, _, by go_num, by omega, HXN, HMN, HEM4, HB4, HFR4⟩
              case measure => simp [intOf]; omega
        · have d1 : decide ((i : Int) < (X0.length : Int)) = false := decide_eq_false (by omega)
          have d2 : decide (i < X0.length) = false := decide_eq_false hlt
          have HUA : Aside0 (X = X0.map (rM es)) := ⟨((show i = X0.length by omega) ▸ HU.out : Upto es X0 X X0.length).all⟩
          have HMF : Aside0 (0 < X0.length → MsgsAt wo B gm (X0.map (rM es))) := ⟨by rw [← HUA.out]; exact HMs.out⟩
          go_wp2_with fail
          go_end0
          exact ⟨rfl, HMF, HBr, HFr⟩
end Go.Proofs.YtbfhglaaombglaaDoor
end
section
namespace Go.Proofs.YtbfhglaaombglaaDoor
set_option linter.unusedVariables false
set_option linter.unusedSimpArgs false
open Go.RowKit Go.ChangeMaps Go.Proofs.YtbfhglaaombglaaDoorW.PrintWords Go.Proofs.YtbfhglaaombglaaDoorW.PrintMore Go.Proofs.YtbfhglaaombglaaDoor.PIdlParses
theorem results_cell3 {fn : Func} {p u u2 : Tmp} {ty : TypeId} (h : fn.results = #[.cell p ty, .tmp u, .tmp u2]) (tmps : Array Value) (P : Program) (w : World) :
    (results fn tmps).run P w =
      ((asAddr (tmps.getD p undef)).run P w).andThen fun a w₁ => ((loadVar ty a).run P w₁).andThen fun v w₂ => .ok (.tuple #[v, tmps.getD u undef, tmps.getD u2 undef]) w₂ := by
  simp only [results, h]
  simp [Sem.run_bind, Result.andThen]
theorem toks_len : ∀ k p u, u.length ≤ k → (toksA p u).1.length ≤ u.length := by
  intro k
  induction k with
  | zero =>
    intro p u h
    have : u = [] := List.eq_nil_of_length_eq_zero (by omega)
    subst this
    rw [toksA_nil]
    exact Nat.le_refl _
  | succ k ih =>
    intro p u h
    by_cases hu : u = []
    · subst hu; rw [toksA_nil]; exact Nat.le_refl _
    · cases hs : stepL u with
      | inl e => rw [toksA_err p u hu e hs]; exact Nat.zero_le _
      | inr q =>
        obtain ⟨kk, n⟩ := q
        obtain ⟨_, h2, h3⟩ := step_bound u hu kk n hs
        have h4 : (u.drop n).length = u.length - n := List.length_drop ..
        have h5 := ih (p + n) (u.drop n) (by omega)
        cases kk with
        | zero => rw [toksA_blank p u hu n hs]; omega
        | succ kk => rw [toksA_tok p u hu kk n hs]; simp only [List.length_cons]; omega
/-- The pieces, as the parser reads them. -/
theorem tokens_tk (s : ByteArray) (w : World) (hs : s.size ≤ 16384) (hT : Tabs w) (L : List (Nat × Nat × Nat)) (hR : Aside0 (toksA 0 (bs s) = (L, none))) :
    Calls Tryd.prog 15 #[.string s] w fun e w' => ∃ A c, e = .returned (.tuple #[.slice A (L.map (tkOf s)).length c, .int .i64 0, .int .i64 0]) ∧ Aside0 (TkRd w' A c (L.map (tkOf s))) ∧ Aside0 (Below w.heap.size w w') := by
  refine (tokens_run s w hs hT L none hR).mono ?_
  rintro e w' ⟨v, h1, h2, h3⟩
  have hll : L.length ≤ 20000 := by
    have := toks_len _ 0 (bs s) (Nat.le_refl _)
    rw [hR.out, bs_length] at this
    simp only at this
    omega
  obtain ⟨A, c, rfl, hr⟩ := toks_read h2.out
  have hc : L.length ≤ c ∧ c ≤ 9223372036854775807 := by
    obtain ⟨_, h9⟩ := h2.out
    rcases h9 with ⟨h8, h7⟩ | ⟨g, cap, cur, h8, _, hh, h6, hm, _⟩
    · injection h8 with _ a b
      rw [b, h7]
      omega
    · injection h8 with _ _ b
      subst b
      simp only [maxLen] at hm
      omega
  refine ⟨A, c, by rw [List.length_map]; exact h1, ⟨⟨by rw [List.length_map]; exact hc.1, by rw [List.length_map]; exact hll⟩, hc.2, fun t ht => ?_, fun hn => ?_⟩, h3⟩
  · obtain ⟨q, _, rfl⟩ := List.mem_map.1 ht
    show (s.extract q.2.1 (q.2.1 + q.2.2)).size ≤ 16384
    rw [ByteArray.size_extract]
    omega
  · rw [List.length_map] at hn
    obtain ⟨g, rfl, hcc⟩ := hr.2 hn
    refine ⟨g, 0, rfl, fun j t hj => ?_⟩
    rw [List.getElem?_map] at hj
    obtain ⟨q, hq, rfl⟩ := Option.map_eq_some_iff.1 hj
    have := hcc j q hq
    rw [Nat.zero_add]
    exact this
/-- A schema's value, read. -/
def ScRd (w : World) (x : Sc) (v1 v2 v3 : Value) : Prop :=
  ∃ A1 c1 A2 c2 A3 c3, v1 = .slice A1 (x.msgs.map gS).length c1 ∧ (x.msgs.map gS).length ≤ c1 ∧ k45.C w A1 (x.msgs.map gS).length (x.msgs.map gS) ∧
    v2 = .slice A2 (x.enums.map eS).length c2 ∧ (x.enums.map eS).length ≤ c2 ∧ k68.C w A2 (x.enums.map eS).length (x.enums.map eS) ∧
    v3 = .slice A3 (x.meths.map mS).length c3 ∧ (x.meths.map mS).length ≤ c3 ∧ k72.C w A3 (x.meths.map mS).length (x.meths.map mS)
theorem ScRd.nil (w : World) : ScRd w Sc.nil (.slice none 0 0) (.slice none 0 0) (.slice none 0 0) :=
  ⟨none, 0, none, 0, none, 0, rfl, Nat.le_refl _, ⟨rfl, by decide, fun h => absurd h (by decide)⟩, rfl, Nat.le_refl _, ⟨rfl, by decide, fun h => absurd h (by decide)⟩, rfl, Nat.le_refl _, ⟨rfl, by decide, fun h => absurd h (by decide)⟩⟩
/-- What resolve makes of the rows is the resolved schema. -/
theorem inE_any (es : List En) (k : ByteArray) : inE (es.map eS) k = es.any (fun e => teq e.name k) := by
  rw [inE, List.any_map]
  congr 1
  funext e
  show decide (e.name = k) = teq e.name k
  rw [teq]
  by_cases h : e.name = k
  · rw [decide_eq_true h, decide_eq_true (by rw [h])]
  · rw [decide_eq_false h, decide_eq_false (fun h2 => h (bs_inj h2))]
theorem r1_fS (es : List En) (f : Fd) : r1 (es.map eS) (fS f) = fS (resK es f) := by
  unfold r1 resK
  rw [inE_any]
  have e2 : (fS f).f3.f1 = f.tname := rfl
  by_cases h : kk7 f.kind = 7
  · have h' : (fS f).f3.f0 = 7 := by show ((kk7 f.kind : Nat) : Int) = 7; omega
    rw [if_pos h]
    by_cases h2 : es.any (fun e => teq e.name f.tname) = true
    · rw [if_pos ⟨h', h2⟩, if_pos h2]; rfl
    · rw [if_neg (fun h3 => h2 h3.2), if_neg h2]
      unfold fS
      rw [h]
      rfl
  · have h' : ¬ (fS f).f3.f0 = 7 := fun h9 => h (by have h8 : ((kk7 f.kind : Nat) : Int) = 7 := h9; omega)
    rw [if_neg (fun h3 => h' h3.1), if_neg h]
theorem step_err (u : List Nat) (e : Nat) (h : stepL u = .inl e) : e = 9 ∨ e = 5 := by
  unfold stepL at h
  repeat' split at h
  all_goals first | (injection h with h; omega) | cases h
/-- Four values stored into a block. -/
def put4 (w : World) (g : Nat) (v0 v1 v2 v3 : Value) : World := (((w.setCell ⟨g, 0, none⟩ v0).setCell ⟨g, 1, none⟩ v1).setCell ⟨g, 2, none⟩ v2).setCell ⟨g, 3, none⟩ v3
theorem put4_blk {w : World} {g : Nat} {t : TypeId} {a0 a1 a2 a3 : Value} (h : w.heap[g]? = some (.cells #[a0, a1, a2, a3] t (0, 0))) (v0 v1 v2 v3 : Value) : (put4 w g v0 v1 v2 v3).heap[g]? = some (.cells #[v0, v1, v2, v3] t (0, 0)) := by
  have := blk_set (blk_set (blk_set (blk_set h 0 v0) 1 v1) 2 v2) 3 v3
  simp only [List.setIfInBounds_toArray, List.set_cons_zero, List.set_cons_succ] at this
  exact this
theorem put4_below {B : Nat} {a w : World} (h : Below B a w) {g : Nat} (hg : B ≤ g) (v0 v1 v2 v3 : Value) : Below B a (put4 w g v0 v1 v2 v3) :=
  (((h.setCell (p := ⟨g, 0, none⟩) hg v0).setCell (p := ⟨g, 1, none⟩) hg v1).setCell (p := ⟨g, 2, none⟩) hg v2).setCell (p := ⟨g, 3, none⟩) hg v3
theorem put4_far {w : World} {g : Nat} (v0 v1 v2 v3 : Value) {k : Nat} (hk : k ≠ g) : (put4 w g v0 v1 v2 v3).heap[k]? = w.heap[k]? := by
  unfold put4
  rw [Below.heap_setCell _ _ _ _ hk, Below.heap_setCell _ _ _ _ hk, Below.heap_setCell _ _ _ _ hk, Below.heap_setCell _ _ _ _ hk]
theorem rM_gS (x : Sc) (xm : List Ms) (h : xm.map (·.1) = x.msgs.map gS) : (xm.map (rM (x.enums.map eS))).map (·.1) = (resolveS x).msgs.map gS := by
  have h1 : (xm.map (rM (x.enums.map eS))).map (·.1) = (xm.map (·.1)).map (fun m => (⟨m.f0, m.f1.map (r1 (x.enums.map eS)), m.f2⟩ : S45)) := by
    rw [List.map_map, List.map_map]; rfl
  rw [h1, h, resolveS, List.map_map, List.map_map]
  apply List.map_congr_left
  intro m _
  show (⟨m.name, (m.fields.map fS).map (r1 (x.enums.map eS)), nums_ m.res⟩ : S45) = ⟨m.name, (m.fields.map (resK x.enums)).map fS, nums_ m.res⟩
  rw [List.map_map, List.map_map]
  congr 1
  apply List.map_congr_left
  intro f _
  exact r1_fS x.enums f
theorem put4_cell {w : World} {g : Nat} (v0 v1 v2 v3 : Value) {k : Nat} (hk : k ≠ g) (o : Nat) : (put4 w g v0 v1 v2 v3).cell? ⟨k, o, none⟩ = w.cell? ⟨k, o, none⟩ := World.cell?_of_block (put4_far v0 v1 v2 v3 hk)
theorem row_res {α : Type} {d : Kd α} {e : TypeId} {w w1 : World} {B : Nat} {v : Value} {xs : List α} (h : d.R e w B (fun _ => True) v xs) (hf : ResFr w w1) (ht : ∀ q, q ∈ e :: d.E → q ≠ 43) : d.R e w1 B (fun _ => True) v xs := by
  refine Kd.R_mono (Kd.R_step (Kd.R_bound h) (fun k hk _ => ?_)) (fun _ _ => trivial)
  obtain ⟨_, _, _, q, hq, c, hc⟩ := hk
  rw [hc]
  exact hf k c q hc (ht q hq)
theorem row_put4 {α : Type} {d : Kd α} {e : TypeId} {w : World} {B g t : Nat} {cells : Array Value} {v : Value} {xs : List α} (h : d.R e w B (fun _ => True) v xs) (hk : w.heap[g]? = some (.cells cells t (0, 0))) (ht : ∀ q, q ∈ e :: d.E → q ≠ t) (v0 v1 v2 v3 : Value) : d.R e (put4 w g v0 v1 v2 v3) B (fun _ => True) v xs :=
  Kd.R_mono (Kd.R_step (Kd.R_types h hk ht) (fun k h9 _ => put4_far v0 v1 v2 v3 h9.2)) (fun _ _ => trivial)
/-- The rows behind resolve are the resolved schema's. -/
theorem scrd_mk {w : World} {B gm : Nat} {X x : Sc} {xm : List Ms} {xe : List S68} {xt : List S72} {Am Ae At : Option Addr} {cm ce ct : Nat} (hx : resolveS X = x) (hr : ScRows X xm xe xt)
    (hm : 0 < xm.length → Am = some ⟨gm, 0, none⟩ ∧ MsgsAt w B gm (xm.map (rM xe))) (hl : xm.length ≤ cm ∧ xm.length ≤ 9223372036854775807)
    (he : k68.R 68 w B (fun _ => True) (.slice Ae xe.length ce) xe) (ht : k72.R 72 w B (fun _ => True) (.slice At xt.length ct) xt) :
    ScRd w x (.slice Am xm.length cm) (.slice Ae xe.length ce) (.slice At xt.length ct) := by
  subst hx
  have e1 : (xm.map (rM xe)).map (·.1) = (resolveS X).msgs.map gS := by rw [hr.es]; exact rM_gS X xm hr.ms
  have l1 : ((resolveS X).msgs.map gS).length = xm.length := by rw [← e1, List.length_map, List.length_map]
  have e2 : (resolveS X).enums.map eS = xe := hr.es.symm
  have e3 : (resolveS X).meths.map mS = xt := hr.ts.symm
  obtain ⟨_, le, re⟩ := Kd.R_reads' he
  obtain ⟨_, lt, rt⟩ := Kd.R_reads' ht
  refine ⟨Am, cm, Ae, ce, At, ct, by rw [l1], by rw [l1]; exact hl.1, ?_, by rw [e2], by rw [e2]; exact le, by rw [e2]; exact re, by rw [e3], by rw [e3]; exact lt, by rw [e3]; exact rt⟩
  by_cases h0 : 0 < xm.length
  · obtain ⟨rfl, h⟩ := hm h0
    have h9 := h.reads (by rw [List.length_map]; exact hl.2)
    rw [e1] at h9
    exact h9
  · have hz : (resolveS X).msgs.map gS = [] := List.eq_nil_of_length_eq_zero (by rw [l1]; omega)
    rw [hz]
    exact ⟨rfl, by decide, fun h => absurd h (by decide)⟩
/-- All blocks but schemas' own stay. -/
def FrS (w W : World) : Prop := ∀ (k : Nat) (c : Array Value) (t : TypeId), w.heap[k]? = some (.cells c t (0, 0)) → t ≠ 27 → W.heap[k]? = some (.cells c t (0, 0))
theorem FrS.refl (w : World) : FrS w w := fun _ _ _ h _ => h
theorem row_frs {α : Type} {d : Kd α} {e B : Nat} {w W : World} {ok : Nat → Prop} {v : Value} {xs : List α} (h : d.R e w B ok v xs) (hF : FrS w W) (hE : ∀ q, q ∈ e :: d.E → q ≠ 27) : d.R e W B ok v xs := by
  refine Kd.R_mono (Kd.R_move (Kd.R_bound h) (fun k hk => ?_)) (fun _ hk => hk.1)
  obtain ⟨_, _, _, q, hq, c, hc⟩ := hk
  rw [hc]
  exact hF k c q hc (hE q hq)
/-- A schema, as it is read in whatever world has its rows. -/
def ScAll (w : World) (x : Sc) (v1 v2 v3 : Value) : Prop := ∀ W, FrS w W → ScRd W x v1 v2 v3
theorem ScAll.nil (w : World) : ScAll w Sc.nil (.slice none 0 0) (.slice none 0 0) (.slice none 0 0) := fun W _ => ScRd.nil W
theorem scrd_all {w : World} {B gm : Nat} {X x : Sc} {xm : List Ms} {xe : List S68} {xt : List S72} {Am Ae At : Option Addr} {cm ce ct : Nat} (hx : resolveS X = x) (hr : ScRows X xm xe xt)
    (hm : 0 < xm.length → Am = some ⟨gm, 0, none⟩ ∧ MsgsAt w B gm (xm.map (rM xe))) (hl : xm.length ≤ cm ∧ xm.length ≤ 9223372036854775807)
    (he : k68.R 68 w B (fun _ => True) (.slice Ae xe.length ce) xe) (ht : k72.R 72 w B (fun _ => True) (.slice At xt.length ct) xt) :
    ScAll w x (.slice Am xm.length cm) (.slice Ae xe.length ce) (.slice At xt.length ct) := fun W hF =>
  scrd_mk hx hr (fun h9 => ⟨(hm h9).1, (hm h9).2.step (fun k c t hk ht => hF k c t hk (by rcases ht with rfl | rfl | rfl <;> decide))⟩) hl (row_frs he hF (by decide)) (row_frs ht hF (by decide))
set_option maxRecDepth 100000 in
set_option maxHeartbeats 4000000 in
theorem parse_any (s : ByteArray) (w : World) (hs : s.size ≤ 140737488351232) (hT : Tabs w) (x : Sc) (at_ er : Nat) (hP : Aside0 (parseF s = (x, at_, er))) :
    Calls Tryd.prog 10 #[.string s] w fun e w' => ∃ v1 v2 v3, e = .returned (.tuple #[.agg #[.string x.name, v1, v2, v3], .int .i64 (at_ : Int), .int .i64 (er : Int)]) ∧ Aside0 (ScAll w' x v1 v2 v3) ∧ Aside0 (Below w.heap.size w w') := by
  have hbA : Below w.heap.size w (w.alloc (.cells #[.string ⟨#[]⟩, .slice none 0 0, .slice none 0 0, .slice none 0 0] 27)) := (Below.refl _ _).alloc (Nat.le_refl _) _
  have HKR := Aside0.mk (heap_alloc_new w (.cells #[.string ⟨#[]⟩, .slice none 0 0, .slice none 0 0, .slice none 0 0] 27))
  have HBA := Aside0.mk hbA
  have HT := Aside0.mk (tabs_below hT hbA)
  clear hbA hT
  go_enter Tryd.func10, Tryd.ntmps10
  go_upto_region 1 with fail
  change Code.wp _ _ _ _ (w.alloc (.cells #[.string ⟨#[]⟩, .slice none 0 0, .slice none 0 0, .slice none 0 0] 27))
  obtain ⟨gR, hgR⟩ : ∃ x, w.heap.size = x := ⟨_, rfl⟩
  obtain ⟨wa, hwa⟩ : ∃ x, w.alloc (.cells #[.string ⟨#[]⟩, .slice none 0 0, .slice none 0 0, .slice none 0 0] 27) = x := ⟨_, rfl⟩
  rw [hgR, hwa] at HKR
  rw [hwa] at HBA HT ⊢
  simp only [hgR]
  have HGR : Aside0 (w.heap.size ≤ gR) := ⟨Nat.le_of_eq hgR⟩
  clear hwa hgR
  by_cases hbig : 16384 < s.size
  · have hP2 := hP.out
    rw [parseF, if_pos hbig] at hP2
    obtain ⟨rfl, hP3⟩ := Prod.mk.inj hP2
    obtain ⟨rfl, rfl⟩ := Prod.mk.inj hP3
    clear hP2 hP3
    have z0 : wa.cell? ⟨gR, 0, none⟩ = some (.string ⟨#[]⟩) := blk_cell HKR.out 0
    have z1 : wa.cell? ⟨gR, 1, none⟩ = some (.slice none 0 0) := blk_cell HKR.out 1
    have z2 : wa.cell? ⟨gR, 2, none⟩ = some (.slice none 0 0) := blk_cell HKR.out 2
    have z3 : wa.cell? ⟨gR, 3, none⟩ = some (.slice none 0 0) := blk_cell HKR.out 3
    have hfz := fun i => blk_frozen HKR.out i
    go_wp2_with fail
    refine (tokens_big s wa hbig).mono ?_
    rintro e w' ⟨rfl, rfl⟩
    go_wp2_with fail
    change bodyPost _ _ _ _ _ (put4 wa gR (.string ⟨#[]⟩) (.slice none 0 0) (.slice none 0 0) (.slice none 0 0))
    have hk8 := put4_blk HKR.out (.string ⟨#[]⟩) (.slice none 0 0) (.slice none 0 0) (.slice none 0 0)
    have hb8 := put4_below HBA.out HGR.out (.string ⟨#[]⟩) (.slice none 0 0) (.slice none 0 0) (.slice none 0 0)
    obtain ⟨w8, hw8⟩ : ∃ x, put4 wa gR (.string ⟨#[]⟩) (.slice none 0 0) (.slice none 0 0) (.slice none 0 0) = x := ⟨_, rfl⟩
    rw [hw8] at hk8 hb8 ⊢
    clear hw8 z0 z1 z2 z3 hfz
    have z0 : w8.cell? ⟨gR, 0, none⟩ = some (.string ⟨#[]⟩) := blk_cell hk8 0
    have z1 : w8.cell? ⟨gR, 1, none⟩ = some (.slice none 0 0) := blk_cell hk8 1
    have z2 : w8.cell? ⟨gR, 2, none⟩ = some (.slice none 0 0) := blk_cell hk8 2
    have z3 : w8.cell? ⟨gR, 3, none⟩ = some (.slice none 0 0) := blk_cell hk8 3
    refine bodyPost_ret (v := .tuple #[.agg #[.string ⟨#[]⟩, .slice none 0 0, .slice none 0 0, .slice none 0 0], .int .i64 0, .int .i64 4]) ?_ rfl ?_
    · rw [results_cell3 rfl]
      go_simp
      first | rfl | done
    · exact ⟨_, _, _, rfl, ⟨ScAll.nil _⟩, ⟨hb8⟩⟩
  · have hs16 : s.size ≤ 16384 := by omega
    obtain ⟨L, E, hLE⟩ : ∃ L E, toksA 0 (bs s) = (L, E) := ⟨_, _, rfl⟩
    have hP2 := hP.out
    rw [parseF, if_neg hbig, hLE] at hP2
    cases E with
    | some ae =>
      obtain ⟨a, e⟩ := ae
      simp only at hP2
      obtain ⟨rfl, hP3⟩ := Prod.mk.inj hP2
      obtain ⟨rfl, rfl⟩ := Prod.mk.inj hP3
      have he0 : ((e : Int) != 0) = true := by
        obtain ⟨v, _, _, hv⟩ := (toks_steps _ 0 (bs s) (Nat.le_refl _)).2 L a e hLE
        have := step_err v e hv
        rw [bne_iff_ne]; omega
      have HLE := Aside0.mk hLE
      clear hP2 hP3 hLE hbig
      go_wp2_with fail
      refine (tokens_err s wa hs16 HT.out L a e HLE).mono ?_
      rintro e9 wb ⟨rfl, hb9⟩
      have HKB := Aside0.mk ((hb9.out.block _ (blk_lt HKR.out)).trans HKR.out)
      have HBB := Aside0.mk (HBA.out.trans (hb9.out.mono HBA.out.size))
      clear hb9
      have z0 : wb.cell? ⟨gR, 0, none⟩ = some (.string ⟨#[]⟩) := blk_cell HKB.out 0
      have z1 : wb.cell? ⟨gR, 1, none⟩ = some (.slice none 0 0) := blk_cell HKB.out 1
      have z2 : wb.cell? ⟨gR, 2, none⟩ = some (.slice none 0 0) := blk_cell HKB.out 2
      have z3 : wb.cell? ⟨gR, 3, none⟩ = some (.slice none 0 0) := blk_cell HKB.out 3
      have hfz := fun i => blk_frozen HKB.out i
      go_wp2_with fail
      change bodyPost _ _ _ _ _ (put4 wb gR (.string ⟨#[]⟩) (.slice none 0 0) (.slice none 0 0) (.slice none 0 0))
      have hk8 := put4_blk HKB.out (.string ⟨#[]⟩) (.slice none 0 0) (.slice none 0 0) (.slice none 0 0)
      have hb8 := put4_below HBB.out HGR.out (.string ⟨#[]⟩) (.slice none 0 0) (.slice none 0 0) (.slice none 0 0)
      obtain ⟨w8, hw8⟩ : ∃ x, put4 wb gR (.string ⟨#[]⟩) (.slice none 0 0) (.slice none 0 0) (.slice none 0 0) = x := ⟨_, rfl⟩
      rw [hw8] at hk8 hb8 ⊢
      clear hw8 z0 z1 z2 z3 hfz
      have z0 : w8.cell? ⟨gR, 0, none⟩ = some (.string ⟨#[]⟩) := blk_cell hk8 0
      have z1 : w8.cell? ⟨gR, 1, none⟩ = some (.slice none 0 0) := blk_cell hk8 1
      have z2 : w8.cell? ⟨gR, 2, none⟩ = some (.slice none 0 0) := blk_cell hk8 2
      have z3 : w8.cell? ⟨gR, 3, none⟩ = some (.slice none 0 0) := blk_cell hk8 3
      refine bodyPost_ret (v := .tuple #[.agg #[.string ⟨#[]⟩, .slice none 0 0, .slice none 0 0, .slice none 0 0], .int .i64 (a : Int), .int .i64 (e : Int)]) ?_ rfl ?_
      · rw [results_cell3 rfl]
        go_simp
        first | rfl | done
      · exact ⟨_, _, _, rfl, ⟨ScAll.nil _⟩, ⟨hb8⟩⟩
    | none =>
      simp only at hP2
      have HLE := Aside0.mk hLE
      have HPT := Aside0.mk hP2
      clear hP2 hLE hbig hP
      go_wp2_with fail
      refine (tokens_tk s wa hs16 HT.out L HLE).mono ?_
      rintro e wb ⟨A, c, rfl, HTK, hb9⟩
      have HKB := Aside0.mk ((hb9.out.block _ (blk_lt HKR.out)).trans HKR.out)
      have HBB := Aside0.mk (HBA.out.trans (hb9.out.mono HBA.out.size))
      have HTB := Aside0.mk (tabs_below HT.out hb9.out)
      clear hb9 HKR HBA HT
      obtain ⟨l, hl⟩ : ∃ l, L.map (tkOf s) = l := ⟨_, rfl⟩
      rw [hl] at HTK HPT
      simp only [hl]
      obtain ⟨nl, hnl⟩ : ∃ n, l.length = n := ⟨_, rfl⟩
      have HST : Aside0 (StOk (l, false)) := ⟨HTK.out.2.2.1⟩
      have hbP : Below wb.heap.size wb (wb.alloc (.cells #[.slice A nl c, .bool false] 54)) := (Below.refl _ _).alloc (Nat.le_refl _) _
      have hkP := heap_alloc_new wb (.cells #[.slice A nl c, .bool false] 54)
      have hps : PS wb (wb.alloc (.cells #[.slice A nl c, .bool false] 54)) wb.heap.size (l, false) := ⟨⟨A, c, by rw [hkP]; simp only [hnl], HTK.out⟩, HTB.out, hbP, Nat.le_refl _⟩
      have hkb2 := (hbP.block _ (blk_lt HKB.out)).trans HKB.out
      have hbb2 := HBB.out.trans (hbP.mono HBB.out.size)
      have hgRp : gR ≠ wb.heap.size := fun e => by have := blk_lt HKB.out; omega
      simp only [hnl]
      clear hl hnl
      go_upto_region 5 with fail
      change Code.wp _ _ _ _ (wb.alloc (.cells #[.slice A nl c, .bool false] 54))
      obtain ⟨p, hp⟩ : ∃ x, wb.heap.size = x := ⟨_, rfl⟩
      obtain ⟨w1, hw1⟩ : ∃ x, wb.alloc (.cells #[.slice A nl c, .bool false] 54) = x := ⟨_, rfl⟩
      rw [hw1, hp] at hps
      rw [hw1] at hkb2 hbb2 ⊢
      rw [hp] at hgRp
      simp only [hp]
      have HPS := Aside0.mk hps
      have HK1 := Aside0.mk hkb2
      have HB1 := Aside0.mk hbb2
      have HNP := Aside0.mk hgRp
      have HPW : Aside0 (w.heap.size ≤ p) := ⟨by rw [← hp]; exact HBB.out.size⟩
      clear hw1 hp hps hkb2 hbb2 hbP hkP hgRp HKB HBB HTB HTK
      obtain ⟨X, S6, hX⟩ : ∃ a b, schemaS (l, false) = (a, b) := ⟨_, _, rfl⟩
      have HOKX : Aside0 (ScOk X) := ⟨by have h9 := schema_ok HST.out; rw [hX] at h9; exact h9⟩
      have hP2 := HPT.out
      rw [parseT, hX] at hP2
      have HX := Aside0.mk hX
      clear hX HPT
      go_wp2_with fail
      refine (schema_any wb w1 p (l, false) HPS X S6 HX).mono ?_
      rintro e w2 ⟨Am, cm, Ae, ce, At, ct, xm, xe, xt, rfl, HSR, HM, HE, HTT, HP2, HG2⟩
      have HK2 := Aside0.mk (grown_block HG2.out HK1.out HNP.out)
      have HB2 := Aside0.mk (HB1.out.grown HG2.out HB1.out.size (fun k hk => by injection hk with hk; rw [← hk]; exact HPW.out))
      have hbw1 : w1.heap.size ≤ w2.heap.size := HG2.out.size
      obtain ⟨B, hB⟩ : ∃ x, w1.heap.size = x := ⟨_, rfl⟩
      rw [hB] at HM HE HTT hbw1
      have HBW : Aside0 (w.heap.size ≤ B) := ⟨by rw [← hB]; exact HB1.out.size⟩
      have HRB : Aside0 (gR < B) := ⟨by rw [← hB]; exact blk_lt HK1.out⟩
      clear hB HK1 HB1
      -- x
      have hbX : Below w2.heap.size w2 (w2.alloc (.cells #[.string X.name, .slice Am xm.length cm, .slice Ae xe.length ce, .slice At xt.length ct] 27)) := (Below.refl _ _).alloc (Nat.le_refl _) _
      have hkX := heap_alloc_new w2 (.cells #[.string X.name, .slice Am xm.length cm, .slice Ae xe.length ce, .slice At xt.length ct] 27)
      have HP3 := Aside0.mk (HP2.out.below hbX)
      have HK3 := Aside0.mk ((hbX.block _ (blk_lt HK2.out)).trans HK2.out)
      have HB3 := Aside0.mk (HB2.out.trans (hbX.mono HB2.out.size))
      have HM3 := Aside0.mk (Kd.R_below HM.out hbX)
      have HE3 := Aside0.mk (Kd.R_below HE.out hbX)
      have HT3 := Aside0.mk (Kd.R_below HTT.out hbX)
      have hnx : gR ≠ w2.heap.size := fun e => by have := blk_lt HK2.out; omega
      have hBx : B ≤ (w2.alloc (.cells #[.string X.name, .slice Am xm.length cm, .slice Ae xe.length ce, .slice At xt.length ct] 27)).heap.size := Nat.le_trans hbw1 hbX.size
      go_upto_region 6 with fail
      change Code.wp _ _ _ _ (w2.alloc (.cells #[.string X.name, .slice Am xm.length cm, .slice Ae xe.length ce, .slice At xt.length ct] 27))
      obtain ⟨gx, hgx⟩ : ∃ x, w2.heap.size = x := ⟨_, rfl⟩
      obtain ⟨w3, hw3⟩ : ∃ x, w2.alloc (.cells #[.string X.name, .slice Am xm.length cm, .slice Ae xe.length ce, .slice At xt.length ct] 27) = x := ⟨_, rfl⟩
      rw [hgx] at hkX hnx
      rw [hw3] at HP3 HK3 HB3 HM3 HE3 HT3 hkX hBx ⊢
      simp only [hgx]
      have HKX := Aside0.mk hkX
      have HNX := Aside0.mk hnx
      clear hw3 hgx hkX hnx hbX HM HE HTT HP2 HG2 HK2 HB2 hbw1
      obtain ⟨l6, b6⟩ := S6
      simp only at hP2
      cases b6 with
      | true =>
        simp only [if_true] at hP2
        obtain ⟨rfl, hP3⟩ := Prod.mk.inj hP2
        obtain ⟨hat, rfl⟩ := Prod.mk.inj hP3
        clear hP2 hP3
        have z0 : w3.cell? ⟨gR, 0, none⟩ = some (.string ⟨#[]⟩) := blk_cell HK3.out 0
        have z1 : w3.cell? ⟨gR, 1, none⟩ = some (.slice none 0 0) := blk_cell HK3.out 1
        have z2 : w3.cell? ⟨gR, 2, none⟩ = some (.slice none 0 0) := blk_cell HK3.out 2
        have z3 : w3.cell? ⟨gR, 3, none⟩ = some (.slice none 0 0) := blk_cell HK3.out 3
        have hfz := fun i => blk_frozen HK3.out i
        cases l6 with
        | nil =>
          simp only at hat
          subst hat
          obtain ⟨A8, c8, hk8⟩ := HP3.out.emp
          have q0 : w3.cell? ⟨p, 0, none⟩ = some (.slice A8 0 c8) := blk_cell hk8 0
          have q1 : w3.cell? ⟨p, 1, none⟩ = some (.bool true) := blk_cell hk8 1
          clear hk8
          go_wp2_with fail
          change bodyPost _ _ _ _ _ (put4 w3 gR (.string ⟨#[]⟩) (.slice none 0 0) (.slice none 0 0) (.slice none 0 0))
          have hk8 := put4_blk HK3.out (.string ⟨#[]⟩) (.slice none 0 0) (.slice none 0 0) (.slice none 0 0)
          have hb8 := put4_below HB3.out HGR.out (.string ⟨#[]⟩) (.slice none 0 0) (.slice none 0 0) (.slice none 0 0)
          obtain ⟨w8, hw8⟩ : ∃ x, put4 w3 gR (.string ⟨#[]⟩) (.slice none 0 0) (.slice none 0 0) (.slice none 0 0) = x := ⟨_, rfl⟩
          rw [hw8] at hk8 hb8 ⊢
          clear hw8 z0 z1 z2 z3 hfz
          have z0 : w8.cell? ⟨gR, 0, none⟩ = some (.string ⟨#[]⟩) := blk_cell hk8 0
          have z1 : w8.cell? ⟨gR, 1, none⟩ = some (.slice none 0 0) := blk_cell hk8 1
          have z2 : w8.cell? ⟨gR, 2, none⟩ = some (.slice none 0 0) := blk_cell hk8 2
          have z3 : w8.cell? ⟨gR, 3, none⟩ = some (.slice none 0 0) := blk_cell hk8 3
          refine bodyPost_ret (v := .tuple #[.agg #[.string ⟨#[]⟩, .slice none 0 0, .slice none 0 0, .slice none 0 0], .int .i64 (s.size : Int), .int .i64 5]) ?_ rfl ?_
          · rw [results_cell3 rfl]
            go_simp
            first | rfl | done
          · exact ⟨_, _, _, rfl, ⟨ScAll.nil _⟩, ⟨hb8⟩⟩
        | cons k l6 =>
          simp only at hat
          subst hat
          obtain ⟨g8, o8, c8, hk8, _, _, hlc, hcm, _, _, a3⟩ := HP3.out.head
          obtain ⟨n8, hn8⟩ : ∃ n, l6.length + 1 = n := ⟨_, rfl⟩
          rw [hn8] at hk8 hlc
          have hn0 : 0 < n8 := by omega
          have hn1 : (0 : Int) < (n8 : Int) := by omega
          have d1 : decide ((0 : Int) < (n8 : Int)) = true := decide_eq_true hn1
          have d2 : decide (0 < n8) = true := decide_eq_true hn0
          have q0 : w3.cell? ⟨p, 0, none⟩ = some (.slice (some ⟨g8, o8, none⟩) n8 c8) := blk_cell hk8 0
          have q1 : w3.cell? ⟨p, 1, none⟩ = some (.bool true) := blk_cell hk8 1
          have q0d : w3.drew.cell? ⟨p, 0, none⟩ = some (.slice (some ⟨g8, o8, none⟩) n8 c8) := q0
          have a3d : w3.drew.cell? ⟨g8, o8 + 2, none⟩ = some (.int .i64 (k.at_ : Int)) := a3
          clear hk8 hn8 hlc hcm
          have hg8 : g8 ≠ gR := by
            intro e
            have h9 := blk_cell HK3.out (o8 + 2)
            rw [e] at a3
            rw [a3] at h9
            rcases o8 with _ | _ | o8
            · simp at h9
            · simp at h9
            · simp at h9
          have HS2 : Aside0 (w3.drew.cell? ⟨p, 0, none⟩ = some (.slice (some ⟨g8, o8, none⟩) n8 c8) ∧ w3.drew.cell? ⟨g8, o8 + 2, none⟩ = some (.int .i64 (k.at_ : Int))) := ⟨⟨q0d, a3d⟩⟩
          have HS3 : Aside0 ((((((w3.setCell ⟨gR, 0, none⟩ (.string ⟨#[]⟩)).setCell ⟨gR, 1, none⟩ (.slice none 0 0)).setCell ⟨gR, 2, none⟩ (.slice none 0 0)).setCell ⟨gR, 3, none⟩ (.slice none 0 0)).drew).cell? ⟨p, 0, none⟩ = some (.slice (some ⟨g8, o8, none⟩) n8 c8) ∧ (((((w3.setCell ⟨gR, 0, none⟩ (.string ⟨#[]⟩)).setCell ⟨gR, 1, none⟩ (.slice none 0 0)).setCell ⟨gR, 2, none⟩ (.slice none 0 0)).setCell ⟨gR, 3, none⟩ (.slice none 0 0)).drew).cell? ⟨g8, o8 + 2, none⟩ = some (.int .i64 (k.at_ : Int))) := ⟨⟨(put4_cell _ _ _ _ (fun e => HNP.out e.symm) _).trans q0d, (put4_cell _ _ _ _ hg8 _).trans a3d⟩⟩
          have HKD : Aside0 (w3.drew.heap[gR]? = some (.cells #[.string ⟨#[]⟩, .slice none 0 0, .slice none 0 0, .slice none 0 0] 27 (0, 0))) := ⟨HK3.out⟩
          have HBD := Aside0.mk HB3.out.drew
          have hfw := fun i => blk_frozen HK3.out i
          have y0 : w3.cell? ⟨gR, 0, none⟩ = some (.string ⟨#[]⟩) := z0
          have y1 : w3.cell? ⟨gR, 1, none⟩ = some (.slice none 0 0) := z1
          have y2 : w3.cell? ⟨gR, 2, none⟩ = some (.slice none 0 0) := z2
          have y3 : w3.cell? ⟨gR, 3, none⟩ = some (.slice none 0 0) := z3
          have hfd : ∀ i, w3.drew.frozen? ⟨gR, i, none⟩ = false := hfw
          clear hg8 z0 z1 z2 z3 hfz
          have z0 : w3.drew.cell? ⟨gR, 0, none⟩ = some (.string ⟨#[]⟩) := blk_cell HKD.out 0
          have z1 : w3.drew.cell? ⟨gR, 1, none⟩ = some (.slice none 0 0) := blk_cell HKD.out 1
          have z2 : w3.drew.cell? ⟨gR, 2, none⟩ = some (.slice none 0 0) := blk_cell HKD.out 2
          have z3 : w3.drew.cell? ⟨gR, 3, none⟩ = some (.slice none 0 0) := blk_cell HKD.out 3
          have hfz := fun i => blk_frozen HKD.out i
          go_upto_region 10 with fail
          go_region_held (fun W => W.cell? ⟨p, 0, none⟩ = some (.slice (some ⟨g8, o8, none⟩) n8 c8) ∧ W.cell? ⟨g8, o8 + 2, none⟩ = some (.int .i64 (k.at_ : Int))) (first | with_reducible exact HS2.out | with_reducible exact HS3.out) (fail)
          all_goals
            go_wp2_with fail
            change bodyPost _ _ _ _ _ ((put4 w3 gR (.string ⟨#[]⟩) (.slice none 0 0) (.slice none 0 0) (.slice none 0 0)).drew)
            have hk8 := put4_blk HK3.out (.string ⟨#[]⟩) (.slice none 0 0) (.slice none 0 0) (.slice none 0 0)
            have hb8 := (put4_below HB3.out HGR.out (.string ⟨#[]⟩) (.slice none 0 0) (.slice none 0 0) (.slice none 0 0)).drew
            replace hk8 : (put4 w3 gR (.string ⟨#[]⟩) (.slice none 0 0) (.slice none 0 0) (.slice none 0 0)).drew.heap[gR]? = some (.cells #[.string ⟨#[]⟩, .slice none 0 0, .slice none 0 0, .slice none 0 0] 27 (0, 0)) := hk8
            obtain ⟨w8, hw8⟩ : ∃ x, (put4 w3 gR (.string ⟨#[]⟩) (.slice none 0 0) (.slice none 0 0) (.slice none 0 0)).drew = x := ⟨_, rfl⟩
            rw [hw8] at hk8 hb8 ⊢
            clear hw8 z0 z1 z2 z3 hfz y0 y1 y2 y3 hfw hfd
            have z0 : w8.cell? ⟨gR, 0, none⟩ = some (.string ⟨#[]⟩) := blk_cell hk8 0
            have z1 : w8.cell? ⟨gR, 1, none⟩ = some (.slice none 0 0) := blk_cell hk8 1
            have z2 : w8.cell? ⟨gR, 2, none⟩ = some (.slice none 0 0) := blk_cell hk8 2
            have z3 : w8.cell? ⟨gR, 3, none⟩ = some (.slice none 0 0) := blk_cell hk8 3
            refine bodyPost_ret (v := .tuple #[.agg #[.string ⟨#[]⟩, .slice none 0 0, .slice none 0 0, .slice none 0 0], .int .i64 (k.at_ : Int), .int .i64 5]) ?_ rfl ?_
            · rw [results_cell3 rfl]
              go_simp
              first | rfl | done
            · exact ⟨_, _, _, rfl, ⟨ScAll.nil _⟩, ⟨hb8⟩⟩
      | false =>
        simp only [Bool.false_eq_true, if_false] at hP2
        obtain ⟨hx9, hP3⟩ := Prod.mk.inj hP2
        obtain ⟨rfl, rfl⟩ := Prod.mk.inj hP3
        have HXX := Aside0.mk hx9
        clear hP2 hP3 hx9
        obtain ⟨u9, hk9⟩ := HP3.out.wrong
        have q1 : w3.cell? ⟨p, 1, none⟩ = some (.bool false) := blk_cell hk9 1
        clear hk9
        have hap := HSR.out.ap
        have hes := HSR.out.es
        obtain ⟨_, hXl, hCm⟩ := Kd.R_reads' HM3.out
        have HCL := Aside0.mk (show xm.length ≤ cm ∧ xm.length ≤ 9223372036854775807 from ⟨hXl, hCm.2.1⟩)
        obtain ⟨_, hEl, hCe⟩ := Kd.R_reads' HE3.out
        obtain ⟨gm, hgm⟩ : ∃ gm, 0 < xm.length → Am = some ⟨gm, 0, none⟩ ∧ MsgsAt w3 B gm xm := by
          by_cases h0 : 0 < xm.length
          · obtain ⟨g9, h1, h2⟩ := msgs_of_R HM3.out h0
            exact ⟨g9, fun _ => ⟨h1, h2⟩⟩
          · exact ⟨0, fun h => absurd h h0⟩
        have HGM := Aside0.mk hgm
        have HFF : Aside0 (∀ y ∈ xm, y.1.f1.length ≤ 9223372036854775807 ∧ ∀ f ∈ y.1.f1, f.f3.f1.size ≤ 16384) := ⟨fun y hy => by
          obtain ⟨i, hi⟩ := List.getElem?_of_mem hy
          obtain ⟨_, hms⟩ := hgm (by have := (List.getElem?_eq_some_iff.1 hi).1; omega)
          obtain ⟨v1, v2, hma⟩ := hms.el i y hi
          obtain ⟨A9, c9, rfl, _⟩ := Kd.Q_slice hma.q1
          obtain ⟨_, _, hC9⟩ := Kd.Q_reads' hma.q1
          refine ⟨hC9.2.1, fun f hf => ?_⟩
          have h8 : y.1 ∈ X.msgs.map gS := by rw [← HSR.out.ms]; exact List.mem_map.2 ⟨y, hy, rfl⟩
          obtain ⟨m, hm, hmy⟩ := List.mem_map.1 h8
          rw [← hmy] at hf
          obtain ⟨fd, hfd, rfl⟩ := List.mem_map.1 (show f ∈ m.fields.map fS from hf)
          exact (HOKX.out.fs m hm fd hfd).2⟩
        have HES : Aside0 (∀ e ∈ xe, e.f0.size ≤ 16384) := ⟨fun e he => by
          rw [hes] at he
          obtain ⟨en, hen, rfl⟩ := List.mem_map.1 he
          exact HOKX.out.es en hen⟩
        have hXl2 := hCm.2.1
        have hEl2 := hCe.2.1
        have HAP := Aside0.mk hap
        clear hap hes hXl hEl hCm hCe hgm
        go_wp2_with fail
        refine (resolve_any w3 B gx gm 0 X.name Am Ae cm ce (.slice At xt.length ct) xm xe HKX.out HGM.out HAP.out hXl2 HFF.out HE3.out hEl2 HES.out hBx).mono ?_
        rintro e w4 ⟨rfl, HMS, HB4, HFR⟩
        have HK4 := Aside0.mk ((HB4.out.block _ HRB.out).trans HK3.out)
        have HKX4 := Aside0.mk (HFR.out gx _ _ HKX.out (by decide))
        have HE4 := Aside0.mk (row_res HE3.out HFR.out (by decide))
        have HT4 := Aside0.mk (row_res HT3.out HFR.out (by decide))
        have HBW4 := Aside0.mk (HB3.out.trans (HB4.out.mono HBW.out))
        have z0 : w4.cell? ⟨gR, 0, none⟩ = some (.string ⟨#[]⟩) := blk_cell HK4.out 0
        have z1 : w4.cell? ⟨gR, 1, none⟩ = some (.slice none 0 0) := blk_cell HK4.out 1
        have z2 : w4.cell? ⟨gR, 2, none⟩ = some (.slice none 0 0) := blk_cell HK4.out 2
        have z3 : w4.cell? ⟨gR, 3, none⟩ = some (.slice none 0 0) := blk_cell HK4.out 3
        have hfz := fun i => blk_frozen HK4.out i
        have y0 : w4.cell? ⟨gx, 0, none⟩ = some (.string X.name) := blk_cell HKX4.out 0
        have y1 : w4.cell? ⟨gx, 1, none⟩ = some (.slice Am xm.length cm) := blk_cell HKX4.out 1
        have y2 : w4.cell? ⟨gx, 2, none⟩ = some (.slice Ae xe.length ce) := blk_cell HKX4.out 2
        have y3 : w4.cell? ⟨gx, 3, none⟩ = some (.slice At xt.length ct) := blk_cell HKX4.out 3
        clear q1
        go_wp2_with fail
        change bodyPost _ _ _ _ _ (put4 w4 gR (.string X.name) (.slice Am xm.length cm) (.slice Ae xe.length ce) (.slice At xt.length ct))
        have hk8 := put4_blk HK4.out (.string X.name) (.slice Am xm.length cm) (.slice Ae xe.length ce) (.slice At xt.length ct)
        have hb8 := put4_below HBW4.out HGR.out (.string X.name) (.slice Am xm.length cm) (.slice Ae xe.length ce) (.slice At xt.length ct)
        have hrd := scrd_all (w := put4 w4 gR (.string X.name) (.slice Am xm.length cm) (.slice Ae xe.length ce) (.slice At xt.length ct)) HXX.out HSR.out (fun h9 => ⟨(HGM.out h9).1, (HMS.out h9).step (fun k8 c8 t8 h8 ht8 => (put4_far _ _ _ _ (fun e9 => by rw [e9, HK4.out] at h8; injection h8 with h8; injection h8 with _ h8; subst h8; revert ht8; decide)).trans h8)⟩) HCL.out (row_put4 HE4.out HK4.out (by decide) _ _ _ _) (row_put4 HT4.out HK4.out (by decide) _ _ _ _)
        obtain ⟨w8, hw8⟩ : ∃ x, put4 w4 gR (.string X.name) (.slice Am xm.length cm) (.slice Ae xe.length ce) (.slice At xt.length ct) = x := ⟨_, rfl⟩
        rw [hw8] at hk8 hb8 hrd ⊢
        clear hw8 z0 z1 z2 z3 hfz
        have z0 : w8.cell? ⟨gR, 0, none⟩ = some (.string X.name) := blk_cell hk8 0
        have z1 : w8.cell? ⟨gR, 1, none⟩ = some (.slice Am xm.length cm) := blk_cell hk8 1
        have z2 : w8.cell? ⟨gR, 2, none⟩ = some (.slice Ae xe.length ce) := blk_cell hk8 2
        have z3 : w8.cell? ⟨gR, 3, none⟩ = some (.slice At xt.length ct) := blk_cell hk8 3
        refine bodyPost_ret (v := .tuple #[.agg #[.string X.name, .slice Am xm.length cm, .slice Ae xe.length ce, .slice At xt.length ct], .int .i64 0, .int .i64 0]) ?_ rfl ?_
        · rw [results_cell3 rfl]
          go_simp
          first | rfl | done
        · exact ⟨_, _, _, by rw [← HXX.out]; rfl, ⟨hrd⟩, ⟨hb8⟩⟩
end Go.Proofs.YtbfhglaaombglaaDoor
end
section
namespace Go.Proofs.YtbfhglaaombglaaDoor
set_option linter.unusedVariables false
set_option linter.unusedSimpArgs false
open Go.RowKit Go.ChangeMaps Go.Proofs.YtbfhglaaombglaaDoorW.PrintWords Go.Proofs.YtbfhglaaombglaaDoorW.PrintMore Go.Proofs.YtbfhglaaombglaaDoor.PIdlParses
def exI : ByteArray := ⟨#[115, 99, 104, 101, 109, 97, 32, 97, 59, 32, 109, 101, 115, 115, 97, 103, 101, 32, 109, 32, 123, 32, 105, 110, 116, 51, 50, 32, 120, 32, 61, 32, 49, 59, 32, 125]⟩
def exX : Sc := ⟨⟨#[97]⟩, [⟨⟨#[109]⟩, [⟨⟨#[120]⟩, 1, 1, 1, ⟨#[]⟩⟩], []⟩], [], []⟩
theorem ex_parse : parseF exI = (exX, 0, 0) := by kernel_rfl
/-- The first element of a row of messages. -/
theorem msg0 {w : World} {A : Option Addr} {n : Nat} {m : S45} {l : List S45} (h : k45.C w A n (m :: l)) : ∃ b o z A1 c1 A2 c2, A = some ⟨b, o, z⟩ ∧ w.cell? ⟨b, o, z⟩ = some (.string m.f0) ∧ w.cell? ⟨b, o + 1, none⟩ = some (.slice A1 m.f1.length c1) ∧ w.cell? ⟨b, o + 2, none⟩ = some (.slice A2 m.f2.length c2) ∧ k43.C w A1 m.f1.length m.f1 ∧ (Kd.int .i64).C w A2 m.f2.length m.f2 := by
  obtain ⟨ad, rfl, hc⟩ := h.2.2 (by rw [← h.1]; simp)
  obtain ⟨cs, _, hK, hcc⟩ := hc 0 m rfl
  obtain ⟨A1, c1, A2, c2, rfl, _, C1, _, C2⟩ := k45_open hK
  obtain ⟨b, o, z⟩ := ad
  exact ⟨b, o, z, A1, c1, A2, c2, rfl, hcc 0 _ rfl, hcc 1 _ rfl, hcc 2 _ rfl, C1, C2⟩
/-- The elements of a row of fields. -/
theorem fld_at {w : World} {A : Option Addr} {n : Nat} {l : List S43} (h : k43.C w A n l) (hn : 0 < l.length) : ∃ b o z, A = some ⟨b, o, z⟩ ∧ ∀ j f, l[j]? = some f →
    w.cell? ((⟨b, o, z⟩ : Addr).add (j * 5)) = some (.string f.f0) ∧ w.cell? ⟨b, o + (j * 5 + 1), none⟩ = some (.int .i64 f.f1) ∧ w.cell? ⟨b, o + (j * 5 + 2), none⟩ = some (.int .i64 f.f2) ∧ w.cell? ⟨b, o + (j * 5 + 3), none⟩ = some (.int .i64 f.f3.f0) ∧ w.cell? ⟨b, o + (j * 5 + 4), none⟩ = some (.string f.f3.f1) := by
  obtain ⟨⟨b, o, z⟩, rfl, hc⟩ := h.2.2 (by rw [← h.1]; exact hn)
  refine ⟨b, o, z, rfl, fun j f hf => ?_⟩
  obtain ⟨cs, _, hK, hcc⟩ := hc j f hf
  have hcs := k43_open hK
  subst hcs
  exact ⟨hcc 0 _ rfl, hcc 1 _ rfl, hcc 2 _ rfl, hcc 3 _ rfl, hcc 4 _ rfl⟩
/-- Parse, its parts by name. -/
theorem parse_parts (s : ByteArray) (w : World) (hs : s.size ≤ 140737488351232) (hT : Tabs w) (x : Sc) (at_ er : Nat) (hP : Aside0 (parseF s = (x, at_, er))) (nm : ByteArray) (ms : List S45) (es : List S68) (ts : List S72) (n1 n2 n3 : Nat)
    (h : Aside0 (x.name = nm ∧ x.msgs.map gS = ms ∧ x.enums.map eS = es ∧ x.meths.map mS = ts ∧ ms.length = n1 ∧ es.length = n2 ∧ ts.length = n3)) :
    Calls Tryd.prog 10 #[.string s] w fun e w' => ∃ A1 c1 A2 c2 A3 c3, e = .returned (.tuple #[.agg #[.string nm, .slice A1 n1 c1, .slice A2 n2 c2, .slice A3 n3 c3], .int .i64 (at_ : Int), .int .i64 (er : Int)]) ∧ Aside0 (n1 ≤ c1 ∧ k45.C w' A1 n1 ms) ∧ Aside0 (n2 ≤ c2 ∧ k68.C w' A2 n2 es) ∧ Aside0 (n3 ≤ c3 ∧ k72.C w' A3 n3 ts) ∧ Aside0 (Below w.heap.size w w') := by
  refine (parse_any s w hs hT x at_ er hP).mono ?_
  rintro e w1 ⟨v1, v2, v3, rfl, HS, HB⟩
  obtain ⟨A1, c1, A2, c2, A3, c3, rfl, l1, C1, rfl, l2, C2, rfl, l3, C3⟩ := HS.out w1 (FrS.refl w1)
  obtain ⟨h1, h2, h3, h4, h5, h6, h7⟩ := h.out
  rw [h2, h5] at l1 C1
  rw [h3, h6] at l2 C2
  rw [h4, h7] at l3 C3
  rw [h1, h2, h3, h4, h5, h6, h7]
  exact ⟨A1, c1, A2, c2, A3, c3, rfl, ⟨l1, C1⟩, ⟨l2, C2⟩, ⟨l3, C3⟩, HB⟩
def exM : S45 := ⟨⟨#[109]⟩, [⟨⟨#[120]⟩, 1, 1, ⟨1, ⟨#[]⟩⟩⟩], []⟩
set_option maxRecDepth 100000 in
set_option maxHeartbeats 1000000 in
theorem awake_any (w : World) (hT : Tabs w) :
    Calls Tryd.prog 9 #[] w fun e w' => e = .returned (.bool true) ∧ Below w.heap.size w w' := by
  have HT := Aside0.mk hT
  clear hT
  go_enter Tryd.func9, Tryd.ntmps9
  go_wp2_with fail
  refine (parse_parts exI _ (by decide) HT.out exX 0 0 ⟨ex_parse⟩ ⟨#[97]⟩ [exM] [] [] 1 0 0 ⟨⟨rfl, rfl, rfl, rfl, rfl, rfl, rfl⟩⟩).mono ?_
  rintro e w1 ⟨A1, c1, A2, c2, A3, c3, rfl, HC, _, _, HB⟩
  have hbx : Below w1.heap.size w1 (w1.alloc (.cells #[.string ⟨#[97]⟩, .slice A1 1 c1, .slice A2 0 c2, .slice A3 0 c3] 27)) := (Below.refl _ _).alloc (Nat.le_refl _) _
  have hk9 := heap_alloc_new w1 (.cells #[.string ⟨#[97]⟩, .slice A1 1 c1, .slice A2 0 c2, .slice A3 0 c3] 27)
  have HC2 := Aside0.mk (Kd.C_below HC.out.2 hbx)
  have HB9 := Aside0.mk (HB.out.trans (hbx.mono HB.out.size))
  clear hbx HB HC
  go_upto_region 2 with fail
  change Code.wp _ _ _ _ (w1.alloc (.cells #[.string ⟨#[97]⟩, .slice A1 1 c1, .slice A2 0 c2, .slice A3 0 c3] 27))
  obtain ⟨gx, hgx⟩ : ∃ x, w1.heap.size = x := ⟨_, rfl⟩
  obtain ⟨w2, hw2⟩ : ∃ x, w1.alloc (.cells #[.string ⟨#[97]⟩, .slice A1 1 c1, .slice A2 0 c2, .slice A3 0 c3] 27) = x := ⟨_, rfl⟩
  rw [hgx] at hk9
  rw [hw2] at hk9 HC2 HB9 ⊢
  simp only [hgx]
  clear hw2 hgx
  have y1 : w2.cell? ⟨gx, 1, none⟩ = some (.slice A1 1 c1) := blk_cell hk9 1
  obtain ⟨b, o, z, Af, cf, Ar, cr, rfl, m0, m1, m2, hF, _⟩ := msg0 HC2.out
  obtain ⟨b2, o2, z2, rfl, hf⟩ := fld_at hF (by decide)
  obtain ⟨f0, f1, f2, f3, f4⟩ := hf 0 _ rfl
  have f0' : w2.cell? ⟨b2, o2, z2⟩ = some (.string ⟨#[120]⟩) := f0
  have f1' : w2.cell? ⟨b2, o2 + 1, none⟩ = some (.int .i64 1) := f1
  have f2' : w2.cell? ⟨b2, o2 + 2, none⟩ = some (.int .i64 1) := f2
  have f3' : w2.cell? ⟨b2, o2 + 3, none⟩ = some (.int .i64 1) := f3
  have f4' : w2.cell? ⟨b2, o2 + 4, none⟩ = some (.string ⟨#[]⟩) := f4
  have m1' : w2.cell? ⟨b, o + 1, none⟩ = some (.slice (some ⟨b2, o2, z2⟩) 1 cf) := m1
  have heq : ∀ n W, (Op.equalIn (n + 3) 43 (.agg #[.string ⟨#[120]⟩, .int .i64 1, .int .i64 1, .int .i64 1, .string ⟨#[]⟩]) (.agg #[.string ⟨#[120]⟩, .int .i64 1, .int .i64 1, .int .i64 1, .string ⟨#[]⟩])).run Tryd.prog W = .ok true W := fun n W => by
    have h9 := eqA43 n W ⟨#[120]⟩ ⟨#[120]⟩ 1 1 1 1 1 1 ⟨#[]⟩ ⟨#[]⟩
    simpa using h9
  clear f0 f1 f2 f3 f4 hf hF m0 m1 m2 hk9
  go_wp2_with fail
  go_ret
  exact ⟨rfl, HB9.out⟩
end Go.Proofs.YtbfhglaaombglaaDoor
end
section
namespace Go.Proofs.YtbfhglaaombglaaDoor
set_option linter.unusedVariables false
set_option linter.unusedSimpArgs false
open Go.RowKit Go.ChangeMaps Go.Proofs.YtbfhglaaombglaaDoorW.PrintWords Go.Proofs.YtbfhglaaombglaaDoorW.PrintMore Go.Proofs.YtbfhglaaombglaaDoor.PIdlParses
theorem add_form (b o : Nat) (z) (n : Nat) : ∃ z', (⟨b, o, z⟩ : Addr).add n = ⟨b, o + n, z'⟩ := by
  unfold Addr.add
  by_cases h : n = 0
  · subst h; exact ⟨z, rfl⟩
  · rw [if_neg h]; exact ⟨none, rfl⟩
theorem flatF_length : ∀ (D : List (Nat × Nat × Nat)) (i : Nat), (flatF i D).length = D.length := by
  intro D
  induction D with
  | nil => intro i; rfl
  | cons d D ih => intro i; show (flatF (i + 1) D).length + 1 = _; rw [ih]; rfl
theorem tdiv_in (x : Int) (n : Nat) (hn : 1 ≤ n) (h1 : -9223372036854775808 ≤ x) (h2 : x ≤ 9223372036854775807) (y : Int) (hy : x.tdiv n = y) : -9223372036854775808 ≤ y ∧ y ≤ 9223372036854775807 := by
  have h3 : (x.tdiv n).natAbs ≤ x.natAbs := by
    rw [Int.natAbs_tdiv]
    exact Nat.div_le_self _ _
  rw [hy] at h3
  rcases Int.lt_or_le x 0 with h0 | h0
  · have h5 : y ≤ 0 := by
      rw [← hy]
      have h6 : 0 ≤ (-x).tdiv n := Int.tdiv_nonneg (by omega) (by omega)
      rw [Int.neg_tdiv] at h6
      omega
    omega
  · have h5 : 0 ≤ y := by rw [← hy]; exact Int.tdiv_nonneg h0 (by omega)
    omega
set_option maxRecDepth 100000 in
set_option maxHeartbeats 8000000 in
theorem msgs_any (A0 : Option Addr) (c0 : Nat) (xs : List Int) (w : World) (hr : ReadsInt w .i64 A0 xs.length xs) (hc : xs.length ≤ c0) (hl : xs.length * 8 ≤ 140737488351232) (hw : ∀ x ∈ xs, -9223372036854775808 ≤ x ∧ x ≤ 9223372036854775807) (hT : Tabs w) :
    Calls Tryd.prog 6 #[.slice A0 xs.length c0] w fun e w' => e = .returned (.bool true) ∧ Below w.heap.size w w' := by
  have HT := Aside0.mk hT
  have HR := Aside0.mk hr
  have HW := Aside0.mk hw
  clear hT hr hw
  have hb1 : Below w.heap.size w (w.alloc (.cells #[.string ⟨#[105, 110, 116, 51, 50]⟩, .string ⟨#[105, 110, 116, 54, 52]⟩, .string ⟨#[98, 111, 111, 108]⟩, .string ⟨#[116, 101, 120, 116]⟩, .string ⟨#[98, 121, 116, 101, 115]⟩] 36)) := (Below.refl _ _).alloc (Nat.le_refl _) _
  have hk1 := heap_alloc_new w (.cells #[.string ⟨#[105, 110, 116, 51, 50]⟩, .string ⟨#[105, 110, 116, 54, 52]⟩, .string ⟨#[98, 111, 111, 108]⟩, .string ⟨#[116, 101, 120, 116]⟩, .string ⟨#[98, 121, 116, 101, 115]⟩] 36)
  go_enter Tryd.func6, Tryd.ntmps6
  go_upto_region 2 with fail
  change Code.wp _ _ _ _ (w.alloc (.cells #[.string ⟨#[105, 110, 116, 51, 50]⟩, .string ⟨#[105, 110, 116, 54, 52]⟩, .string ⟨#[98, 111, 111, 108]⟩, .string ⟨#[116, 101, 120, 116]⟩, .string ⟨#[98, 121, 116, 101, 115]⟩] 36))
  obtain ⟨gk, hgk⟩ : ∃ x, w.heap.size = x := ⟨_, rfl⟩
  obtain ⟨w1, hw1⟩ : ∃ x, w.alloc (.cells #[.string ⟨#[105, 110, 116, 51, 50]⟩, .string ⟨#[105, 110, 116, 54, 52]⟩, .string ⟨#[98, 111, 111, 108]⟩, .string ⟨#[116, 101, 120, 116]⟩, .string ⟨#[98, 121, 116, 101, 115]⟩] 36) = x := ⟨_, rfl⟩
  rw [hw1, hgk] at hk1
  rw [hw1] at hb1 ⊢
  simp only [hgk]
  have HGK : Aside0 (w.heap.size ≤ gk) := ⟨Nat.le_of_eq hgk⟩
  clear hw1 hgk
  have hb2 : Below w1.heap.size w1 (w1.alloc (.cells #[.string ⟨#[]⟩, .string ⟨#[111, 112, 116, 105, 111, 110, 97, 108, 32]⟩, .string ⟨#[114, 101, 112, 101, 97, 116, 101, 100, 32]⟩] 37)) := (Below.refl _ _).alloc (Nat.le_refl _) _
  have hk2 := heap_alloc_new w1 (.cells #[.string ⟨#[]⟩, .string ⟨#[111, 112, 116, 105, 111, 110, 97, 108, 32]⟩, .string ⟨#[114, 101, 112, 101, 97, 116, 101, 100, 32]⟩] 37)
  have hk3 := (hb2.block _ (blk_lt hk1)).trans hk1
  have hb3 := hb1.trans (hb2.mono hb1.size)
  have hgl1 := hb1.size
  go_upto_region 3 with fail
  change Code.wp _ _ _ _ (w1.alloc (.cells #[.string ⟨#[]⟩, .string ⟨#[111, 112, 116, 105, 111, 110, 97, 108, 32]⟩, .string ⟨#[114, 101, 112, 101, 97, 116, 101, 100, 32]⟩] 37))
  obtain ⟨gl, hgl⟩ : ∃ x, w1.heap.size = x := ⟨_, rfl⟩
  obtain ⟨w2, hw2⟩ : ∃ x, w1.alloc (.cells #[.string ⟨#[]⟩, .string ⟨#[111, 112, 116, 105, 111, 110, 97, 108, 32]⟩, .string ⟨#[114, 101, 112, 101, 97, 116, 101, 100, 32]⟩] 37) = x := ⟨_, rfl⟩
  rw [hw2, hgl] at hk2
  rw [hw2] at hk3 hb3 ⊢
  simp only [hgl]
  have HGL : Aside0 (w.heap.size ≤ gl) := ⟨by rw [← hgl]; exact hgl1⟩
  have HK := Aside0.mk hk3
  have HL := Aside0.mk hk2
  have HB := Aside0.mk hb3
  clear hw2 hgl hk1 hk2 hk3 hb1 hb2 hb3 hgl1
  go_wp2_with fail
  go_loopw [5, 6, 7] (fun a b u wr => ∃ (D : List (Nat × Nat × Nat)) (A : Option Addr) (c : Nat) (T : ByteArray), a = .string T ∧ b = .slice A D.length c ∧ u = .int .i64 (D.length : Int) ∧ D.length ≤ 20 ∧ Aside0 (∀ d ∈ D, DOk d) ∧ Aside0 (bs T = bs headB ++ flatL 0 D) ∧ T.size ≤ 21 + 30 * D.length ∧ Aside0 (k43.R 43 wr w.heap.size (fun _ => True) (.slice A D.length c) ((flatF 0 D).map fS)) ∧ Aside0 (Below w.heap.size w wr) ∧ Aside0 (wr.heap[gk]? = some (.cells #[.string ⟨#[105, 110, 116, 51, 50]⟩, .string ⟨#[105, 110, 116, 54, 52]⟩, .string ⟨#[98, 111, 111, 108]⟩, .string ⟨#[116, 101, 120, 116]⟩, .string ⟨#[98, 121, 116, 101, 115]⟩] 36 (0, 0))) ∧ Aside0 (wr.heap[gl]? = some (.cells #[.string ⟨#[]⟩, .string ⟨#[111, 112, 116, 105, 111, 110, 97, 108, 32]⟩, .string ⟨#[114, 101, 112, 101, 97, 116, 101, 100, 32]⟩] 37 (0, 0)))) (fun _ _ u _ => 20 - (intOf u).toNat)
  case atStart => exact ⟨[], none, 0, headB, rfl, rfl, rfl, by decide, ⟨fun d hd => by cases hd⟩, ⟨by simp [flatL]⟩, by decide, ⟨Kd.R_nil _ _ _ _ _⟩, HB, HK, HL⟩
  case round =>
    obtain ⟨D, A, c, T, rfl, rfl, rfl, hD, HD, HT8, hTs, HF, HBr, HKr, HLr⟩ := hrel
    clear HB HK HL
    obtain ⟨i, hi⟩ : ∃ i, D.length = i := ⟨_, rfl⟩
    obtain ⟨fs, hfs⟩ : ∃ f, (flatF 0 D).map fS = f := ⟨_, rfl⟩
    rw [hi] at HF hD hTs
    rw [hfs] at HF
    have HI := Aside0.mk hi
    have HFS := Aside0.mk hfs
    simp only [hi]
    clear hi hfs
    obtain ⟨wo, hwo⟩ : ∃ x, x = wr := ⟨_, rfl⟩
    subst hwo
    by_cases hgo : i < xs.length ∧ i < 20
    · obtain ⟨g1, g2⟩ := hgo
      have e1 : (i : Int) < (xs.length : Int) := by omega
      have e2 : (i : Int) < 20 := by omega
      have d1 : decide ((i : Int) < (xs.length : Int)) = true := decide_eq_true e1
      have d2 : decide ((i : Int) < 20) = true := decide_eq_true e2
      obtain ⟨B0, rfl, k0⟩ := (HR.out.below HBr.out).at_ (i : Int) (by omega) (by omega)
      rw [Int.toNat_natCast] at k0
      obtain ⟨x, hx⟩ : ∃ x, Go.Proofs.YtbfhglaaombglaaDoorW.PrintWords.rd xs (i : Int) = x := ⟨_, rfl⟩
      rw [hx] at k0
      have hxb : -9223372036854775808 ≤ x ∧ x ≤ 9223372036854775807 := by
        refine HW.out x ?_
        rw [← hx, Go.Proofs.YtbfhglaaombglaaDoorW.PrintWords.rd, Int.toNat_natCast, List.getD_eq_getElem?_getD, List.getElem?_eq_getElem g1, Option.getD_some]
        exact List.getElem_mem _
      obtain ⟨y, hy⟩ : ∃ y, x.tdiv 5 = y := ⟨_, rfl⟩
      obtain ⟨z, hz⟩ : ∃ z, x.tdiv 15 = z := ⟨_, rfl⟩
      have hyb : -9223372036854775808 ≤ y ∧ y ≤ 9223372036854775807 := tdiv_in x 5 (by omega) hxb.1 hxb.2 y hy
      have hzb : -9223372036854775808 ≤ z ∧ z ≤ 9223372036854775807 := tdiv_in x 15 (by omega) hxb.1 hxb.2 z hz
      have hwy : wrap64 y = y := by unfold wrap64; omega
      have hwz : wrap64 z = z := by unfold wrap64; omega
      obtain ⟨k, HPK, hk5⟩ : ∃ k : Nat, Aside0 (∀ W, Calls Tryd.prog 13 #[.int .i64 x, .int .i64 5] W fun e w' => e = .returned (.int .i64 (k : Int)) ∧ w' = W) ∧ k < 5 := ⟨plF x 5, ⟨fun W => (place_val x 5 W (by omega) (by omega)).mono fun _ _ h => ⟨h.1, h.2.symm⟩⟩, plF_lt x 5 (by omega)⟩
      obtain ⟨l, HPL, hl3⟩ : ∃ k : Nat, Aside0 (∀ W, Calls Tryd.prog 13 #[.int .i64 y, .int .i64 3] W fun e w' => e = .returned (.int .i64 (k : Int)) ∧ w' = W) ∧ k < 3 := ⟨plF y 3, ⟨fun W => (place_val y 3 W (by omega) (by omega)).mono fun _ _ h => ⟨h.1, h.2.symm⟩⟩, plF_lt y 3 (by omega)⟩
      obtain ⟨q, HPQ, hq5⟩ : ∃ k : Nat, Aside0 (∀ W, Calls Tryd.prog 13 #[.int .i64 z, .int .i64 500] W fun e w' => e = .returned (.int .i64 (k : Int)) ∧ w' = W) ∧ k < 500 := ⟨plF z 500, ⟨fun W => (place_val z 500 W (by omega) (by omega)).mono fun _ _ h => ⟨h.1, h.2.symm⟩⟩, plF_lt z 500 (by omega)⟩
      obtain ⟨t, ht⟩ : ∃ t, q + 1 = t := ⟨_, rfl⟩
      have hti : 1 + (q : Int) = (t : Int) := by omega
      have hti2 : (q : Int) + 1 = (t : Int) := by omega
      have HDO : Aside0 (DOk (l, k, t)) := ⟨⟨hl3, hk5, by show 1 ≤ t; omega, by show t ≤ 500; omega⟩⟩
      have HX := Aside0.mk hx
      clear hx ht hxb hyb hzb
      have k0d : wo.drew.cell? (B0.add i) = some (.int .i64 x) := k0
      go_upto_region 8 with fail
      go_quiet (first | (with_reducible exact Calls.quiet_of_same (HPK.out _)) | (with_reducible exact Calls.quiet_of_same (HPL.out _)) | (with_reducible exact Calls.quiet_of_same (HPQ.out _)))
      all_goals
        have HB2 : Aside0 (Below w.heap.size w (wo.drewN nq)) := ⟨HBr.out.trans (((Drawn0.refl _).step nq).below.mono HBr.out.size)⟩
        have HF2 : Aside0 (k43.R 43 (wo.drewN nq) w.heap.size (fun _ => True) (.slice A i c) fs) := ⟨Kd.R_below HF.out ((Drawn0.refl _).step nq).below⟩
        have HK2 : Aside0 ((wo.drewN nq).heap[gk]? = _) := ⟨HKr.out⟩
        have HL2 : Aside0 ((wo.drewN nq).heap[gl]? = _) := ⟨HLr.out⟩
        obtain ⟨w3, hw3⟩ : ∃ x, wo.drewN nq = x := ⟨_, rfl⟩
        rw [hw3] at HB2 HF2 HK2 HL2 ⊢
        clear hw3 k0 k0d HBr HF HKr HLr hwy hwz hy hz d1 d2 e1
        obtain ⟨i1, hi1⟩ : ∃ i1, i + 1 = i1 := ⟨_, rfl⟩
        have hi1i : (i : Int) + 1 = (i1 : Int) := by omega
        have hcut := fun W => cut_str ⟨#[97, 98, 99, 100, 101, 102, 103, 104, 105, 106, 107, 108, 109, 110, 111, 112, 113, 114, 115, 116]⟩ i i1 (by omega) (show i1 ≤ 20 by omega) W
        obtain ⟨sl, hsl⟩ : ∃ s, (⟨#[97, 98, 99, 100, 101, 102, 103, 104, 105, 106, 107, 108, 109, 110, 111, 112, 113, 114, 115, 116]⟩ : ByteArray).extract i i1 = s := ⟨_, rfl⟩
        simp only [hsl] at hcut
        obtain ⟨nm, hnm⟩ : ∃ s, (⟨#[102]⟩ : ByteArray) ++ sl = s := ⟨_, rfl⟩
        have HNM : Aside0 (nameB i = nm) := ⟨by rw [← hnm, ← hsl, ← hi1]; rfl⟩
        have hns : nm.size = 2 := by rw [← HNM.out]; exact (name_step i g2).2.2.2
        have hsz0 : sl.size ≤ 20 := by rw [← hsl, ByteArray.size_extract]; show min i1 20 - i ≤ 20; omega
        have hs0 : ¬ (9223372036854775807 < 1 + sl.size) := by omega
        clear hsl
        have z2 : ∀ W : World, W = W := fun _ => rfl
        clear z2
        go_upto_region 10 with fail
        clear hcut hs0 hsz0 hnm
        obtain ⟨lB, hlB⟩ : ∃ s, labB l = s := ⟨_, rfl⟩
        obtain ⟨kB, hkB⟩ : ∃ s, kindB k = s := ⟨_, rfl⟩
        obtain ⟨dB, hdB⟩ : ∃ s, decB t = s := ⟨_, rfl⟩
        have cl : w3.cell? ⟨gl, l, none⟩ = some (.string lB) := by
          rw [← hlB]
          have h9 : l = 0 ∨ l = 1 ∨ l = 2 := by omega
          rcases h9 with rfl | rfl | rfl
          · exact blk_cell HL2.out 0
          · exact blk_cell HL2.out 1
          · exact blk_cell HL2.out 2
        have ck : w3.cell? ⟨gk, k, none⟩ = some (.string kB) := by
          rw [← hkB]
          have h9 : k = 0 ∨ k = 1 ∨ k = 2 ∨ k = 3 ∨ k = 4 := by omega
          rcases h9 with rfl | rfl | rfl | rfl | rfl
          · exact blk_cell HK2.out 0
          · exact blk_cell HK2.out 1
          · exact blk_cell HK2.out 2
          · exact blk_cell HK2.out 3
          · exact blk_cell HK2.out 4
        have cld : w3.drew.cell? ⟨gl, l, none⟩ = some (.string lB) := cl
        have ckd : w3.drew.cell? ⟨gk, k, none⟩ = some (.string kB) := ck
        have hl9 : lB.size ≤ 9 := by
          rw [← hlB]
          have h9 : l = 0 ∨ l = 1 ∨ l = 2 := by omega
          rcases h9 with rfl | rfl | rfl <;> decide
        have hk9 : kB.size ≤ 5 := by
          rw [← hkB]
          have h9 : k = 0 ∨ k = 1 ∨ k = 2 ∨ k = 3 ∨ k = 4 := by omega
          rcases h9 with rfl | rfl | rfl | rfl | rfl <;> decide
        have hd9 : dB.size ≤ 3 := by rw [← hdB]; exact (dec_step t (by have := HDO.out.2.2.2; show t < 501; exact Nat.lt_succ_of_le this) HDO.out.2.2.1).2.2.2
        obtain ⟨a1, ha1⟩ : ∃ s, T ++ (⟨#[32]⟩ : ByteArray) = s := ⟨_, rfl⟩
        obtain ⟨a2, ha2⟩ : ∃ s, a1 ++ (lB : ByteArray) = s := ⟨_, rfl⟩
        obtain ⟨a3, ha3⟩ : ∃ s, a2 ++ (kB : ByteArray) = s := ⟨_, rfl⟩
        obtain ⟨a4, ha4⟩ : ∃ s, a3 ++ (⟨#[32]⟩ : ByteArray) = s := ⟨_, rfl⟩
        obtain ⟨a5, ha5⟩ : ∃ s, a4 ++ (nm : ByteArray) = s := ⟨_, rfl⟩
        obtain ⟨a6, ha6⟩ : ∃ s, a5 ++ (⟨#[32, 61, 32]⟩ : ByteArray) = s := ⟨_, rfl⟩
        obtain ⟨a7, ha7⟩ : ∃ s, a6 ++ (dB : ByteArray) = s := ⟨_, rfl⟩
        obtain ⟨a8, ha8⟩ : ∃ s, a7 ++ (⟨#[59]⟩ : ByteArray) = s := ⟨_, rfl⟩
        have hz1 : a1.size = T.size + 1 := by rw [← ha1, ByteArray.size_append]; rfl
        have hz2 : a2.size = a1.size + lB.size := by rw [← ha2, ByteArray.size_append]
        have hz3 : a3.size = a2.size + kB.size := by rw [← ha3, ByteArray.size_append]
        have hz4 : a4.size = a3.size + 1 := by rw [← ha4, ByteArray.size_append]; rfl
        have hz5 : a5.size = a4.size + nm.size := by rw [← ha5, ByteArray.size_append]
        have hz6 : a6.size = a5.size + 3 := by rw [← ha6, ByteArray.size_append]; rfl
        have hz7 : a7.size = a6.size + dB.size := by rw [← ha7, ByteArray.size_append]
        have hz8 : a8.size = a7.size + 1 := by rw [← ha8, ByteArray.size_append]; rfl
        have hs1 : ¬ (9223372036854775807 < T.size + 1) := by omega
        have hs2 : ¬ (9223372036854775807 < a1.size + lB.size) := by omega
        have hs3 : ¬ (9223372036854775807 < a2.size + kB.size) := by omega
        have hs4 : ¬ (9223372036854775807 < a3.size + 1) := by omega
        have hs5 : ¬ (9223372036854775807 < a4.size + nm.size) := by omega
        have hs6 : ¬ (9223372036854775807 < a5.size + 3) := by omega
        have hs7 : ¬ (9223372036854775807 < a6.size + dB.size) := by omega
        have hs8 : ¬ (9223372036854775807 < a7.size + 1) := by omega
        have h8s : a8.size ≤ 21 + 30 * (i + 1) := by omega
        have HZ8 := Aside0.mk h8s
        have HA8 : Aside0 (bs a8 = bs headB ++ flatL 0 (D ++ [(l, k, t)])) := ⟨by
          rw [← ha8, ← ha7, ← ha6, ← ha5, ← ha4, ← ha3, ← ha2, ← ha1, ← hlB, ← hkB, ← hdB, ← HNM.out, flatL_snoc, Nat.zero_add, HI.out]
          simp only [bs_append, HT8.out, List.append_assoc]
          rfl⟩
        have HDC : Aside0 (∀ W, Calls Tryd.prog 14 #[.int .i64 (t : Int)] W fun e w' => e = .returned (.string dB) ∧ ∃ m, w' = W.drewN m) := ⟨fun W => by rw [← hdB]; exact dec_any t (by have := HDO.out.2.2.2; have h9 : t ≤ 500 := this; omega) W⟩
        have hl3i : (l : Int) < 3 := by omega
        have hk5i : (k : Int) < 5 := by omega
        clear hz1 hz2 hz3 hz4 hz5 hz6 hz7 hz8 h8s hlB hkB hdB hl9 hk9 hd9
        go_quiet (with_reducible exact Calls.quiet_of (HDC.out _))
        all_goals
          have HB3 : Aside0 (Below w.heap.size w (w3.drewN nq)) := ⟨HB2.out.trans (((Drawn0.refl _).step nq).below.mono HB2.out.size)⟩
          have HF3 : Aside0 (k43.R 43 (w3.drewN nq) w.heap.size (fun _ => True) (.slice A i c) fs) := ⟨Kd.R_below HF2.out ((Drawn0.refl _).step nq).below⟩
          have HK3 : Aside0 ((w3.drewN nq).heap[gk]? = _) := ⟨HK2.out⟩
          have HL3 : Aside0 ((w3.drewN nq).heap[gl]? = _) := ⟨HL2.out⟩
          obtain ⟨w4, hw4⟩ : ∃ x, w3.drewN nq = x := ⟨_, rfl⟩
          rw [hw4] at HB3 HF3 HK3 HL3 ⊢
          clear hw4 cl ck cld ckd ha1 ha2 ha3 ha4 ha5 ha6 ha7 ha8 hs1 hs2 hs3 hs4 hs5 hs6 hs7 hs8 HB2 HF2 HK2 HL2 HDC
          have hfl : fs.length = i := by rw [← HFS.out, List.length_map, flatF_length]; exact HI.out
          obtain ⟨l1, hl1⟩ : ∃ n, l + 1 = n := ⟨_, rfl⟩
          obtain ⟨k1, hk1⟩ : ∃ n, k + 1 = n := ⟨_, rfl⟩
          have hl1i : 1 + (l : Int) = (l1 : Int) := by omega
          have hk1i : 1 + (k : Int) = (k1 : Int) := by omega
          have HEL : Aside0 (fS (fdOf i (l, k, t)) = ⟨nm, (t : Int), (l1 : Int), ⟨(k1 : Int), ⟨#[]⟩⟩⟩) := ⟨by
            rw [← hl1, ← hk1, ← HNM.out]
            unfold fS fdOf kk7
            rfl⟩
          rw [← hfl] at HF3
          have hi20 : fs.length < 20 := by omega
          clear hl1 hk1
          simp only [← hfl]
          go_wp2_with (at_builtin; refine Kd.R_append k43 (w0 := w4) (W := w4) w.heap.size ?hgd (.tmp 69) (.tmp 78) 38 43 (.agg #[.string ⟨#[]⟩, .int .i64 0, .int .i64 0, .int .i64 0, .string ⟨#[]⟩]) 56 ?ho ?ht ?hinfo ?hz ?hs0 ?hb0 (.slice A fs.length c) fs (⟨nm, (t : Int), (l1 : Int), ⟨(k1 : Int), ⟨#[]⟩⟩⟩ : S43) [.string nm, .int .i64 (t : Int), .int .i64 (l1 : Int), .int .i64 (k1 : Int), .string ⟨#[]⟩] (fun _ => True) (fun _ => False) ?hs ?hx ?hp ?hokp ?hfresh ?HO ?HB ?hbase ?hl ?h)
          case hgd => rfl
          case ho => rfl
          case ht => exact Tryd.underlying38
          case hinfo => exact infoField
          case hz => rfl
          case hs0 => decide
          case hb0 => decide
          case hs => rfl
          case hx => rfl
          case hp => exact k43_mkM _ _ _ (⟨nm, (t : Int), (l1 : Int), ⟨(k1 : Int), ⟨#[]⟩⟩⟩ : S43)
          case hokp => exact fun _ h => h.elim
          case hfresh => exact fun _ _ => trivial
          case HO => exact HF3.out
          case HB => exact Below.refl _ _
          case hbase => exact HB3.out.size
          case hl => omega
          case h =>
            intro v9 w5 hr9 hb9 hg9 hat9
            obtain ⟨A9, c9, rfl⟩ := Kd.R_slice hr9
            try rw [← hfl] at hg9
            have hk9 := blk_grown HK3.out hg9 (Kd.R_ne HF3.out HK3.out (by decide))
            have hl9 := blk_grown HL3.out hg9 (Kd.R_ne HF3.out HL3.out (by decide))
            have hb5 := HB3.out.trans hb9
            have HK5 := Aside0.mk hk9
            have HL5 := Aside0.mk hl9
            have HB5 := Aside0.mk hb5
            have HD5 : Aside0 (∀ d ∈ D ++ [(l, k, t)], DOk d) := ⟨fun d hd => by
              rcases List.mem_append.1 hd with h | h
              · exact HD.out d h
              · rw [List.mem_singleton.1 h]; exact HDO.out⟩
            have hsn : (flatF 0 (D ++ [(l, k, t)])).map fS = fs ++ [(⟨nm, (t : Int), (l1 : Int), ⟨(k1 : Int), ⟨#[]⟩⟩⟩ : S43)] := by rw [flatF_snoc, List.map_append, HFS.out, Nat.zero_add, HI.out, List.map_cons, List.map_nil, HEL.out]
            have hln : (D ++ [(l, k, t)]).length = fs.length + 1 := by rw [List.length_append, HI.out, hfl]; rfl
            have HF5 : Aside0 (k43.R 43 w5 w.heap.size (fun _ => True) (.slice A9 (D ++ [(l, k, t)]).length c9) ((flatF 0 (D ++ [(l, k, t)])).map fS)) := ⟨by
              rw [hsn, hln]
              rw [List.length_append] at hr9
              exact hr9⟩
            have HLN := Aside0.mk hln
            clear hr9 hb9 hg9 hat9 hk9 hl9 hb5 hsn hln
            go_wp2_with fail
            go_roundw
            case rel => exact ⟨D ++ [(l, k, t)], A9, c9, a8, rfl, by rw [HLN.out]; simp, by rw [HLN.out]; go_num, by rw [HLN.out]; omega, HD5, HA8, by rw [HLN.out, hfl]; exact HZ8.out, HF5, HB5, HK5, HL5⟩
            case measure => simp [intOf]; omega
    · have HTP : Aside0 (parseF (T ++ ⟨#[32, 125]⟩) = (⟨nA, [⟨nM, flatF 0 D, []⟩], [], []⟩, 0, 0)) := ⟨msgs_parse D (by rw [HI.out]; omega) HD.out _ (by rw [ByteArray.size_append]; have : (⟨#[32, 125]⟩ : ByteArray).size = 2 := rfl; omega) (by rw [bs_append, HT8.out, List.append_assoc]; rfl)⟩
      have hfl : fs.length = i := by rw [← HFS.out, List.length_map, flatF_length]; exact HI.out
      obtain ⟨U, hU⟩ : ∃ u, T ++ (⟨#[32, 125]⟩ : ByteArray) = u := ⟨_, rfl⟩
      have hUs : U.size ≤ 1000 := by rw [← hU, ByteArray.size_append]; have : (⟨#[32, 125]⟩ : ByteArray).size = 2 := rfl; omega
      have hs1 : ¬ (9223372036854775807 < T.size + 2) := by omega
      rw [hU] at HTP
      have HMS : Aside0 ((⟨nA, [⟨nM, flatF 0 D, []⟩], [], []⟩ : Sc).msgs.map gS = [(⟨⟨#[109]⟩, fs, []⟩ : S45)]) := ⟨by rw [← HFS.out]; rfl⟩
      clear HKr HLr HT8 HD
      have hex : ((i : Int) < (xs.length : Int) ∧ (i : Int) < 20) ∨ ¬ (i : Int) < (xs.length : Int) ∨ ((i : Int) < (xs.length : Int) ∧ ¬ (i : Int) < 20) := by omega
      rcases hex with h9 | h9 | h9
      · exact absurd h9 (by omega)
      · have d1 : decide ((i : Int) < (xs.length : Int)) = false := decide_eq_false h9
        clear hgo
        go_wp2_with fail
        refine (parse_parts U _ (by omega) (tabs_below HT.out HBr.out) _ 0 0 HTP ⟨#[97]⟩ [(⟨⟨#[109]⟩, fs, []⟩ : S45)] [] [] 1 0 0 ⟨⟨rfl, HMS.out, rfl, rfl, rfl, rfl, rfl⟩⟩).mono ?_
        rintro e w6 ⟨A1, c1, A2, c2, A3, c3, rfl, HC, _, _, HB6⟩
        clear hU hs1
        have hbx : Below w6.heap.size w6 (w6.alloc (.cells #[.string ⟨#[97]⟩, .slice A1 1 c1, .slice A2 0 c2, .slice A3 0 c3] 27)) := (Below.refl _ _).alloc (Nat.le_refl _) _
        have hk9 := heap_alloc_new w6 (.cells #[.string ⟨#[97]⟩, .slice A1 1 c1, .slice A2 0 c2, .slice A3 0 c3] 27)
        have HC2 := Aside0.mk (Kd.C_below HC.out.2 hbx)
        have hb7 := HB6.out.trans (hbx.mono HB6.out.size)
        have HB9 := Aside0.mk (HBr.out.trans (hb7.mono HBr.out.size))
        have HF9 := Aside0.mk (Kd.R_below HF.out hb7)
        clear hbx HB6 HC hb7 HBr HF
        go_upto_region 13 with fail
        change Code.wp _ _ _ _ (w6.alloc (.cells #[.string ⟨#[97]⟩, .slice A1 1 c1, .slice A2 0 c2, .slice A3 0 c3] 27))
        obtain ⟨gx, hgx⟩ : ∃ x, w6.heap.size = x := ⟨_, rfl⟩
        obtain ⟨w7, hw7⟩ : ∃ x, w6.alloc (.cells #[.string ⟨#[97]⟩, .slice A1 1 c1, .slice A2 0 c2, .slice A3 0 c3] 27) = x := ⟨_, rfl⟩
        rw [hgx] at hk9
        rw [hw7] at hk9 HC2 HB9 HF9 ⊢
        simp only [hgx]
        clear hw7 hgx
        have y0 : w7.cell? ⟨gx, 0, none⟩ = some (.string ⟨#[97]⟩) := blk_cell hk9 0
        have y1 : w7.cell? ⟨gx, 1, none⟩ = some (.slice A1 1 c1) := blk_cell hk9 1
        obtain ⟨b, o, z, Af, cf, Ar, cr, rfl, m0, m1, m2, hF, _⟩ := msg0 HC2.out
        have m0' : w7.cell? ⟨b, o, z⟩ = some (.string ⟨#[109]⟩) := m0
        have m1' : w7.cell? ⟨b, o + 1, none⟩ = some (.slice Af fs.length cf) := m1
        have HFC := Aside0.mk hF
        rw [hfl] at m1'
        clear m0 m1 m2 hF hk9
        go_wp2_with fail
        go_loopw [15] (fun u wr => ∃ j : Nat, u = .int .i64 (j : Int) ∧ j ≤ i ∧ ∃ m, wr = w7.drewN m) (fun u _ => i - (intOf u).toNat)
        case atStart => exact ⟨0, rfl, Nat.zero_le _, 0, rfl⟩
        case round =>
          obtain ⟨j, rfl, hj, m9, rfl⟩ := hrel
          clear y0
          by_cases hji : j < i
          · have q1 : (j : Int) < (i : Int) := by omega
            have d1 : decide ((j : Int) < (i : Int)) = true := decide_eq_true q1
            go_upto_region 18 with fail
            obtain ⟨f, hf⟩ : ∃ f, fs[j]? = some f := ⟨_, List.getElem?_eq_getElem (by omega)⟩
            obtain ⟨b2, o2, z2, rfl, hcf⟩ := fld_at HFC.out (by show 0 < fs.length; omega)
            obtain ⟨f0, f1, f2, f3, f4⟩ := hcf j f hf
            obtain ⟨A9, c9, e9, _, hC⟩ := Kd.R_reads HF9.out
            injection e9 with e91 e92 e93
            clear e92 e93
            subst e91
            obtain ⟨ad, had, _⟩ := hC.2.2 (by omega)
            subst had
            obtain ⟨g9, rfl⟩ := Kd.R_head HF9.out
            obtain ⟨cs, _, hM, hcc⟩ := Kd.R_get HF9.out f (j : Int) (by omega) (by omega)
            rw [Int.toNat_natCast] at hM hcc
            rw [List.getD_eq_getElem?_getD, hf, Option.getD_some] at hM
            have hcs2 := k43_openM hM
            subst hcs2
            have q10 := hcc 0 _ rfl
            have q11 := hcc 1 _ rfl
            have q12 := hcc 2 _ rfl
            have q13 := hcc 3 _ rfl
            have q14 := hcc 4 _ rfl
            have HD8 : Aside0 (∀ n, ∃ m, (w7.drewN m9).drewN n = w7.drewN m) := ⟨fun n => ⟨m9 + n, by rw [World.drewN_drewN]⟩⟩
            rw [add_at, Nat.zero_add] at q10 q11 q12 q13 q14
            have p0 : (w7.drewN m9).cell? ⟨g9, j * 5, none⟩ = some (.string f.f0) := q10
            have p1 : (w7.drewN m9).cell? ⟨g9, j * 5 + 1, none⟩ = some (.int .i64 f.f1) := q11
            have p2 : (w7.drewN m9).cell? ⟨g9, j * 5 + 2, none⟩ = some (.int .i64 f.f2) := q12
            have p3 : (w7.drewN m9).cell? ⟨g9, j * 5 + 3, none⟩ = some (.int .i64 f.f3.f0) := q13
            have p4 : (w7.drewN m9).cell? ⟨g9, j * 5 + 4, none⟩ = some (.string f.f3.f1) := q14
            obtain ⟨z3, hz3⟩ := add_form b2 o2 z2 (j * 5)
            have s0 : (w7.drewN m9).cell? ⟨b2, o2 + j * 5, z3⟩ = some (.string f.f0) := by rw [← hz3]; exact f0
            have s1 : (w7.drewN m9).cell? ⟨b2, o2 + j * 5 + 1, none⟩ = some (.int .i64 f.f1) := f1
            have s2 : (w7.drewN m9).cell? ⟨b2, o2 + j * 5 + 2, none⟩ = some (.int .i64 f.f2) := f2
            have s3 : (w7.drewN m9).cell? ⟨b2, o2 + j * 5 + 3, none⟩ = some (.int .i64 f.f3.f0) := f3
            have s4 : (w7.drewN m9).cell? ⟨b2, o2 + j * 5 + 4, none⟩ = some (.string f.f3.f1) := f4
            have y1' : (w7.drewN m9).cell? ⟨gx, 1, none⟩ = some (.slice (some ⟨b, o, z⟩) 1 c1) := y1
            have m1'' : (w7.drewN m9).cell? ⟨b, o + 1, none⟩ = some (.slice (some ⟨b2, o2, z2⟩) i cf) := m1'
            obtain ⟨w8, hw8⟩ : ∃ x, w7.drewN m9 = x := ⟨_, rfl⟩
            rw [hw8] at p0 p1 p2 p3 p4 s0 s1 s2 s3 s4 y1' m1'' HD8 ⊢
            clear hw8 q10 q11 q12 q13 q14 f0 f1 f2 f3 f4 y1 m1' HF9 HB9 HFC HC2 m0'
            clear hcc hcf
            have heq : ∀ n W, (Op.equalIn (n + 3) 43 (.agg #[.string f.f0, .int .i64 f.f1, .int .i64 f.f2, .int .i64 f.f3.f0, .string f.f3.f1]) (.agg #[.string f.f0, .int .i64 f.f1, .int .i64 f.f2, .int .i64 f.f3.f0, .string f.f3.f1])).run Tryd.prog W = .ok true W := fun n W => by
              have h9 := eqA43 n W f.f0 f.f0 f.f1 f.f1 f.f2 f.f2 f.f3.f0 f.f3.f0 f.f3.f1 f.f3.f1
              simpa using h9
            clear hM hC hf
            go_quiet (fail)
            all_goals
              obtain ⟨m8, hm8⟩ := HD8.out nq
              have HM8 := Aside0.mk hm8
              clear hm8
              go_wp2_with fail
              go_roundw
              case rel => exact ⟨j + 1, by go_num, by omega, m8, HM8.out⟩
              case measure => simp [intOf]; omega
          · have q1 : ¬ (j : Int) < (i : Int) := by omega
            have hbq : Below w7.heap.size w7 (w7.drewN m9) := ((Drawn0.refl _).step _).below
            have HBA := Aside0.mk (HB9.out.trans (hbq.mono HB9.out.size))
            clear hbq
            go_wp2_with fail
            refine (awake_any _ (tabs_below HT.out HBA.out)).mono ?_
            rintro e w8 ⟨rfl, hB8⟩
            have HBB := Aside0.mk (HBA.out.trans (hB8.mono HBA.out.size))
            clear hB8
            go_wp2
            go_ret
            exact ⟨rfl, HBB.out⟩
      · obtain ⟨e1, h9⟩ := h9
        have d1 : decide ((i : Int) < (xs.length : Int)) = true := decide_eq_true e1
        have d2 : decide ((i : Int) < 20) = false := decide_eq_false h9
        clear hgo
        go_wp2_with fail
        refine (parse_parts U _ (by omega) (tabs_below HT.out HBr.out) _ 0 0 HTP ⟨#[97]⟩ [(⟨⟨#[109]⟩, fs, []⟩ : S45)] [] [] 1 0 0 ⟨⟨rfl, HMS.out, rfl, rfl, rfl, rfl, rfl⟩⟩).mono ?_
        rintro e w6 ⟨A1, c1, A2, c2, A3, c3, rfl, HC, _, _, HB6⟩
        clear hU hs1
        have hbx : Below w6.heap.size w6 (w6.alloc (.cells #[.string ⟨#[97]⟩, .slice A1 1 c1, .slice A2 0 c2, .slice A3 0 c3] 27)) := (Below.refl _ _).alloc (Nat.le_refl _) _
        have hk9 := heap_alloc_new w6 (.cells #[.string ⟨#[97]⟩, .slice A1 1 c1, .slice A2 0 c2, .slice A3 0 c3] 27)
        have HC2 := Aside0.mk (Kd.C_below HC.out.2 hbx)
        have hb7 := HB6.out.trans (hbx.mono HB6.out.size)
        have HB9 := Aside0.mk (HBr.out.trans (hb7.mono HBr.out.size))
        have HF9 := Aside0.mk (Kd.R_below HF.out hb7)
        clear hbx HB6 HC hb7 HBr HF
        go_upto_region 13 with fail
        change Code.wp _ _ _ _ (w6.alloc (.cells #[.string ⟨#[97]⟩, .slice A1 1 c1, .slice A2 0 c2, .slice A3 0 c3] 27))
        obtain ⟨gx, hgx⟩ : ∃ x, w6.heap.size = x := ⟨_, rfl⟩
        obtain ⟨w7, hw7⟩ : ∃ x, w6.alloc (.cells #[.string ⟨#[97]⟩, .slice A1 1 c1, .slice A2 0 c2, .slice A3 0 c3] 27) = x := ⟨_, rfl⟩
        rw [hgx] at hk9
        rw [hw7] at hk9 HC2 HB9 HF9 ⊢
        simp only [hgx]
        clear hw7 hgx
        have y0 : w7.cell? ⟨gx, 0, none⟩ = some (.string ⟨#[97]⟩) := blk_cell hk9 0
        have y1 : w7.cell? ⟨gx, 1, none⟩ = some (.slice A1 1 c1) := blk_cell hk9 1
        obtain ⟨b, o, z, Af, cf, Ar, cr, rfl, m0, m1, m2, hF, _⟩ := msg0 HC2.out
        have m0' : w7.cell? ⟨b, o, z⟩ = some (.string ⟨#[109]⟩) := m0
        have m1' : w7.cell? ⟨b, o + 1, none⟩ = some (.slice Af fs.length cf) := m1
        have HFC := Aside0.mk hF
        rw [hfl] at m1'
        clear m0 m1 m2 hF hk9
        go_wp2_with fail
        go_loopw [15] (fun u wr => ∃ j : Nat, u = .int .i64 (j : Int) ∧ j ≤ i ∧ ∃ m, wr = w7.drewN m) (fun u _ => i - (intOf u).toNat)
        case atStart => exact ⟨0, rfl, Nat.zero_le _, 0, rfl⟩
        case round =>
          obtain ⟨j, rfl, hj, m9, rfl⟩ := hrel
          clear y0
          by_cases hji : j < i
          · have q1 : (j : Int) < (i : Int) := by omega
            have d1 : decide ((j : Int) < (i : Int)) = true := decide_eq_true q1
            go_upto_region 18 with fail
            obtain ⟨f, hf⟩ : ∃ f, fs[j]? = some f := ⟨_, List.getElem?_eq_getElem (by omega)⟩
            obtain ⟨b2, o2, z2, rfl, hcf⟩ := fld_at HFC.out (by show 0 < fs.length; omega)
            obtain ⟨f0, f1, f2, f3, f4⟩ := hcf j f hf
            obtain ⟨A9, c9, e9, _, hC⟩ := Kd.R_reads HF9.out
            injection e9 with e91 e92 e93
            clear e92 e93
            subst e91
            obtain ⟨ad, had, _⟩ := hC.2.2 (by omega)
            subst had
            obtain ⟨g9, rfl⟩ := Kd.R_head HF9.out
            obtain ⟨cs, _, hM, hcc⟩ := Kd.R_get HF9.out f (j : Int) (by omega) (by omega)
            rw [Int.toNat_natCast] at hM hcc
            rw [List.getD_eq_getElem?_getD, hf, Option.getD_some] at hM
            have hcs2 := k43_openM hM
            subst hcs2
            have q10 := hcc 0 _ rfl
            have q11 := hcc 1 _ rfl
            have q12 := hcc 2 _ rfl
            have q13 := hcc 3 _ rfl
            have q14 := hcc 4 _ rfl
            have HD8 : Aside0 (∀ n, ∃ m, (w7.drewN m9).drewN n = w7.drewN m) := ⟨fun n => ⟨m9 + n, by rw [World.drewN_drewN]⟩⟩
            rw [add_at, Nat.zero_add] at q10 q11 q12 q13 q14
            have p0 : (w7.drewN m9).cell? ⟨g9, j * 5, none⟩ = some (.string f.f0) := q10
            have p1 : (w7.drewN m9).cell? ⟨g9, j * 5 + 1, none⟩ = some (.int .i64 f.f1) := q11
            have p2 : (w7.drewN m9).cell? ⟨g9, j * 5 + 2, none⟩ = some (.int .i64 f.f2) := q12
            have p3 : (w7.drewN m9).cell? ⟨g9, j * 5 + 3, none⟩ = some (.int .i64 f.f3.f0) := q13
            have p4 : (w7.drewN m9).cell? ⟨g9, j * 5 + 4, none⟩ = some (.string f.f3.f1) := q14
            obtain ⟨z3, hz3⟩ := add_form b2 o2 z2 (j * 5)
            have s0 : (w7.drewN m9).cell? ⟨b2, o2 + j * 5, z3⟩ = some (.string f.f0) := by rw [← hz3]; exact f0
            have s1 : (w7.drewN m9).cell? ⟨b2, o2 + j * 5 + 1, none⟩ = some (.int .i64 f.f1) := f1
            have s2 : (w7.drewN m9).cell? ⟨b2, o2 + j * 5 + 2, none⟩ = some (.int .i64 f.f2) := f2
            have s3 : (w7.drewN m9).cell? ⟨b2, o2 + j * 5 + 3, none⟩ = some (.int .i64 f.f3.f0) := f3
            have s4 : (w7.drewN m9).cell? ⟨b2, o2 + j * 5 + 4, none⟩ = some (.string f.f3.f1) := f4
            have y1' : (w7.drewN m9).cell? ⟨gx, 1, none⟩ = some (.slice (some ⟨b, o, z⟩) 1 c1) := y1
            have m1'' : (w7.drewN m9).cell? ⟨b, o + 1, none⟩ = some (.slice (some ⟨b2, o2, z2⟩) i cf) := m1'
            obtain ⟨w8, hw8⟩ : ∃ x, w7.drewN m9 = x := ⟨_, rfl⟩
            rw [hw8] at p0 p1 p2 p3 p4 s0 s1 s2 s3 s4 y1' m1'' HD8 ⊢
            clear hw8 q10 q11 q12 q13 q14 f0 f1 f2 f3 f4 y1 m1' HF9 HB9 HFC HC2 m0'
            clear hcc hcf
            have heq : ∀ n W, (Op.equalIn (n + 3) 43 (.agg #[.string f.f0, .int .i64 f.f1, .int .i64 f.f2, .int .i64 f.f3.f0, .string f.f3.f1]) (.agg #[.string f.f0, .int .i64 f.f1, .int .i64 f.f2, .int .i64 f.f3.f0, .string f.f3.f1])).run Tryd.prog W = .ok true W := fun n W => by
              have h9 := eqA43 n W f.f0 f.f0 f.f1 f.f1 f.f2 f.f2 f.f3.f0 f.f3.f0 f.f3.f1 f.f3.f1
              simpa using h9
            clear hM hC hf
            go_quiet (fail)
            all_goals
              obtain ⟨m8, hm8⟩ := HD8.out nq
              have HM8 := Aside0.mk hm8
              clear hm8
              go_wp2_with fail
              go_roundw
              case rel => exact ⟨j + 1, by go_num, by omega, m8, HM8.out⟩
              case measure => simp [intOf]; omega
          · have q1 : ¬ (j : Int) < (i : Int) := by omega
            have hbq : Below w7.heap.size w7 (w7.drewN m9) := ((Drawn0.refl _).step _).below
            have HBA := Aside0.mk (HB9.out.trans (hbq.mono HB9.out.size))
            clear hbq
            go_wp2_with fail
            refine (awake_any _ (tabs_below HT.out HBA.out)).mono ?_
            rintro e w8 ⟨rfl, hB8⟩
            have HBB := Aside0.mk (HBA.out.trans (hB8.mono HBA.out.size))
            clear hB8
            go_wp2
            go_ret
            exact ⟨rfl, HBB.out⟩
end Go.Proofs.YtbfhglaaombglaaDoor
end
