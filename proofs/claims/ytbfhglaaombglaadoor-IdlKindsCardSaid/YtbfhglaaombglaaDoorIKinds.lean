/- The statement IdlKinds. -/
import Derived.Test.YtbfhglaaombglaaDoorIgE
namespace Go.Proofs.YtbfhglaaombglaaDoor
set_option linter.unusedVariables false
set_option linter.unusedSimpArgs false
open Go.RowKit Go.ChangeMaps Go.Proofs.YtbfhglaaombglaaDoorW.PrintWords Go.Proofs.YtbfhglaaombglaaDoorW.PrintMore Go.Proofs.YtbfhglaaombglaaDoor.PIdlParses

def kdI : ByteArray := ⟨([115, 99, 104, 101, 109, 97, 32, 97, 59, 32, 109, 101, 115, 115, 97, 103, 101, 32, 109, 32, 123, 32, 101, 32, 120, 32, 61, 32, 49, 59, 32, 109, 32, 121].append [32, 61, 32, 50, 59, 32, 110, 32, 122, 32, 61, 32, 51, 59, 32, 125, 32, 101, 110, 117, 109, 32, 101, 32, 123, 32, 97, 32, 61, 32, 48, 59, 32, 125]).toArray⟩
def kdX : Sc := ⟨⟨#[97]⟩, [⟨⟨#[109]⟩, [⟨⟨#[120]⟩, 1, 1, 6, ⟨#[101]⟩⟩, ⟨⟨#[121]⟩, 2, 1, 7, ⟨#[109]⟩⟩, ⟨⟨#[122]⟩, 3, 1, 7, ⟨#[110]⟩⟩], []⟩], [⟨⟨#[101]⟩, [(⟨#[97]⟩, 0)]⟩], []⟩
theorem kd_parse : parseF kdI = (kdX, 0, 0) := by kernel_rfl
def kdM : S45 := ⟨⟨#[109]⟩, [⟨⟨#[120]⟩, 1, 1, ⟨6, ⟨#[101]⟩⟩⟩, ⟨⟨#[121]⟩, 2, 1, ⟨7, ⟨#[109]⟩⟩⟩, ⟨⟨#[122]⟩, 3, 1, ⟨7, ⟨#[110]⟩⟩⟩], []⟩
set_option maxRecDepth 100000 in
set_option maxHeartbeats 1000000 in
theorem kinds_any (w : World) (hT : Tabs w) :
    Calls Tryd.prog 7 #[] w fun e w' => e = .returned (.bool true) ∧ Below w.heap.size w w' := by
  have HT := Aside0.mk hT
  clear hT
  go_enter Tryd.func7, Tryd.ntmps7
  go_wp2_with fail
  obtain ⟨es, hes⟩ : ∃ x : List S68, x = kdX.enums.map eS := ⟨_, rfl⟩
  refine (parse_parts kdI _ (by decide) HT.out kdX 0 0 ⟨kd_parse⟩ ⟨#[97]⟩ [kdM] es [] 1 1 0 ⟨⟨rfl, rfl, hes.symm, rfl, rfl, by rw [hes]; rfl, rfl⟩⟩).mono ?_
  clear hes
  rintro e w1 ⟨A1, c1, A2, c2, A3, c3, rfl, HC, _, _, HB⟩
  have hbx : Below w1.heap.size w1 (w1.alloc (.cells #[.string ⟨#[97]⟩, .slice A1 1 c1, .slice A2 1 c2, .slice A3 0 c3] 27)) := (Below.refl _ _).alloc (Nat.le_refl _) _
  have hk9 := heap_alloc_new w1 (.cells #[.string ⟨#[97]⟩, .slice A1 1 c1, .slice A2 1 c2, .slice A3 0 c3] 27)
  have HC2 := Aside0.mk (Kd.C_below HC.out.2 hbx)
  have HB9 := Aside0.mk (HB.out.trans (hbx.mono HB.out.size))
  clear hbx HB HC
  go_upto_region 2 with fail
  change Code.wp _ _ _ _ (w1.alloc (.cells #[.string ⟨#[97]⟩, .slice A1 1 c1, .slice A2 1 c2, .slice A3 0 c3] 27))
  obtain ⟨gx, hgx⟩ : ∃ x, w1.heap.size = x := ⟨_, rfl⟩
  obtain ⟨w2, hw2⟩ : ∃ x, w1.alloc (.cells #[.string ⟨#[97]⟩, .slice A1 1 c1, .slice A2 1 c2, .slice A3 0 c3] 27) = x := ⟨_, rfl⟩
  rw [hgx] at hk9
  rw [hw2] at hk9 HC2 HB9 ⊢
  simp only [hgx]
  clear hw2 hgx
  have y1 : w2.cell? ⟨gx, 1, none⟩ = some (.slice A1 1 c1) := blk_cell hk9 1
  have y2 : w2.cell? ⟨gx, 2, none⟩ = some (.slice A2 1 c2) := blk_cell hk9 2
  obtain ⟨b, o, z, Af, cf, Ar, cr, rfl, m0, m1, m2, hF, _⟩ := msg0 HC2.out
  obtain ⟨b2, o2, z2, rfl, hf⟩ := fld_at hF (by decide)
  have m1' : w2.cell? ⟨b, o + 1, none⟩ = some (.slice (some ⟨b2, o2, z2⟩) 3 cf) := m1
  have f3 : w2.cell? ⟨b2, o2 + 3, none⟩ = some (.int .i64 6) := (hf 0 _ rfl).2.2.2.1
  have f4 : w2.cell? ⟨b2, o2 + 4, none⟩ = some (.string ⟨#[101]⟩) := (hf 0 _ rfl).2.2.2.2
  have g3 : w2.cell? ⟨b2, o2 + 8, none⟩ = some (.int .i64 7) := (hf 1 _ rfl).2.2.2.1
  have g4 : w2.cell? ⟨b2, o2 + 9, none⟩ = some (.string ⟨#[109]⟩) := (hf 1 _ rfl).2.2.2.2
  have h3 : w2.cell? ⟨b2, o2 + 13, none⟩ = some (.int .i64 7) := (hf 2 _ rfl).2.2.2.1
  have h4 : w2.cell? ⟨b2, o2 + 14, none⟩ = some (.string ⟨#[110]⟩) := (hf 2 _ rfl).2.2.2.2
  have hTw2 : Tabs w2 := tabs_below HT.out HB9.out
  clear hf hF m0 m1 m2 hk9
  go_wp2_with fail
  refine (awake_any w2 hTw2).mono ?_
  rintro e w3 ⟨rfl, HB3⟩
  have HB4 := HB9.out.trans (HB3.mono HB9.out.size)
  go_upto_region 9 with fail
  go_ret
  exact ⟨rfl, HB4⟩
end Go.Proofs.YtbfhglaaombglaaDoor
