/- Plain laws: packets and their bytes. -/
import Derived.Test.YtabcaeckoghmpaaDoorPCanon
import Derived.Test.YtabcaeckoghmpaaDoorCOf
import Derived.Test.YtabcaeckoghmpaaDoorRName
namespace Go.Proofs.YtabcaeckoghmpaaDoor
set_option linter.unusedVariables false
set_option linter.unusedSimpArgs false
open Go.RowKit Go.Proofs.YtabcaeckoghmpaaDoorW.PrintWords

theorem runesF_size (s : ByteArray) : ∀ k p l, s.size ≤ p + k → runesF s k p = some l → s.size ≤ p + 4 * l.length := by
  intro k
  induction k with
  | zero => intro p l h1 h2; omega
  | succ k ih =>
    intro p l h1 h2
    by_cases hp : p < s.size
    · rw [runesF_step s k p hp] at h2
      have h3 := dec_pos s p hp
      have h4 := (dec_le s p hp).2.1
      split at h2
      · cases h2
      · obtain ⟨m, h5, rfl⟩ := Option.map_eq_some_iff.1 h2
        have := ih _ m (by omega) h5
        rw [List.length_cons]
        omega
    · omega
theorem nameG_small (s : ByteArray) (h : nameG s = true) : s.size ≤ 80 := by
  rw [nameG] at h
  cases hl : runesG s with
  | none => rw [hl] at h; cases h
  | some l =>
    rw [hl] at h
    simp only [Bool.and_eq_true, decide_eq_true_eq] at h
    have := runesF_size s s.size 0 l (by omega) hl
    omega

/-- A packet. -/
structure Pk where mk ::
  (kind fr to_ id ver : Int)
  (meth : ByteArray)
  (err : Int)
  (body : ByteArray)
def pk0 : Pk := ⟨0, 0, 0, 0, 0, ByteArray.empty, 0, ByteArray.empty⟩
/-- Whether a packet may be. -/
def pkOk (p : Pk) : Bool := inF p.kind 1 4 && (inF p.fr 0 255 && (inF p.to_ 0 255 && (inF p.id 0 4294967295 && (inF p.ver 0 12 && ((decide (p.meth.size = 0) || nameG p.meth) && (inF p.err 0 255 && decide (p.body.size ≤ 4096)))))))
/-- Four bytes, the lowest first. -/
def le4 (v : Nat) : List Int := [((v % 256 : Nat) : Int), ((v / 256 % 256 : Nat) : Int), ((v / 65536 % 256 : Nat) : Int), ((v / 16777216 % 256 : Nat) : Int)]
def headB (p : Pk) : List Int := [p.kind, p.fr, p.to_, p.ver, p.err] ++ le4 p.id.toNat
def frameB (p : Pk) : List Int := headB p ++ (enc 10 p.meth.size ++ (bytesOf p.meth ++ bytesOf p.body))
def putB (p : Pk) : List Int := le4 (crcF 0 (frameB p)) ++ frameB p
/-- What is read of bytes that have a sum: the packet, as it stands there. -/
def readB (x : List Int) (n at_ : Nat) : Pk :=
  ⟨x.getD 0 0, x.getD 1 0, x.getD 2 0, x.getD 5 0 + 256 * x.getD 6 0 + 65536 * x.getD 7 0 + 16777216 * x.getD 8 0, x.getD 3 0, strOfNums ((x.drop at_).take n), x.getD 4 0, strOfNums (x.drop (at_ + n))⟩
def getX (x : List Int) : Pk × Nat :=
  if (getF x 9).2.2 ≠ 0 ∨ ((x.length : Int) - (getF x 9).2.1 < (getF x 9).1) then (pk0, 3)
  else if pkOk (readB x (getF x 9).1.toNat (getF x 9).2.1.toNat) then (readB x (getF x 9).1.toNat (getF x 9).2.1.toNat, 0) else (pk0, 3)
def getB (b : List Int) : Pk × Nat :=
  if b.length < 14 then (pk0, 2)
  else if le4 (crcF 0 (b.drop 4)) ≠ b.take 4 then (pk0, 16)
  else getX (b.drop 4)

theorem pkOk_in {p : Pk} (h : pkOk p = true) : (1 ≤ p.kind ∧ p.kind ≤ 4) ∧ (0 ≤ p.fr ∧ p.fr ≤ 255) ∧ (0 ≤ p.to_ ∧ p.to_ ≤ 255) ∧ (0 ≤ p.id ∧ p.id ≤ 4294967295) ∧ (0 ≤ p.ver ∧ p.ver ≤ 12) ∧ (p.meth.size = 0 ∨ nameG p.meth = true) ∧ (0 ≤ p.err ∧ p.err ≤ 255) ∧ p.body.size ≤ 4096 := by
  simp only [pkOk, inF, Bool.and_eq_true, Bool.or_eq_true, decide_eq_true_eq] at h
  exact ⟨h.1, h.2.1, h.2.2.1, h.2.2.2.1, h.2.2.2.2.1, h.2.2.2.2.2.1, h.2.2.2.2.2.2.1, h.2.2.2.2.2.2.2⟩
theorem le4_bytes (v : Nat) : ∀ x ∈ le4 v, 0 ≤ x ∧ x ≤ 255 := by
  intro x hx
  simp only [le4, List.mem_cons, List.not_mem_nil, or_false] at hx
  omega
theorem le4_inj {a b : Nat} (ha : a < 4294967296) (hb : b < 4294967296) (h : le4 a = le4 b) : a = b := by
  simp only [le4, List.cons.injEq, and_true] at h
  omega
theorem bytesOf_bytes (s : ByteArray) : ∀ x ∈ bytesOf s, 0 ≤ x ∧ x ≤ 255 := by
  intro x hx
  obtain ⟨y, _, rfl⟩ := List.mem_map.1 hx
  have := y.toNat_lt
  omega
theorem nums_bytes (s : ByteArray) : strOfNums (bytesOf s) = s := by
  obtain ⟨⟨l⟩⟩ := s
  simp only [strOfNums, bytesOf, List.map_map]
  congr 2
  conv => rhs; rw [← List.map_id l]
  apply List.map_congr_left
  intro b _
  simp
theorem bytes_nums (xs : List Int) (h : ∀ x ∈ xs, 0 ≤ x ∧ x ≤ 255) : bytesOf (strOfNums xs) = xs := by
  simp only [strOfNums, bytesOf, List.map_map]
  conv => rhs; rw [← List.map_id xs]
  apply List.map_congr_left
  intro x hx
  have := h x hx
  simp
  omega
theorem head_length (p : Pk) : (headB p).length = 9 := rfl
theorem frame_bytes {p : Pk} (h : pkOk p = true) : ∀ x ∈ frameB p, 0 ≤ x ∧ x ≤ 255 := by
  obtain ⟨h1, h2, h3, h4, h5, h6, h7, h8⟩ := pkOk_in h
  intro x hx
  rw [frameB, headB] at hx
  simp only [List.mem_append, List.mem_cons, List.not_mem_nil, or_false] at hx
  rcases hx with (hx | hx) | hx | hx | hx
  · omega
  · exact le4_bytes _ x hx
  · exact enc_bytes _ _ x hx
  · exact bytesOf_bytes _ x hx
  · exact bytesOf_bytes _ x hx
theorem four_of (a b c d : Nat) (ha : a < 256) (hb : b < 256) (hc : c < 256) (hd : d < 256) : le4 (a + 256 * b + 65536 * c + 16777216 * d) = [(a : Int), (b : Int), (c : Int), (d : Int)] := by
  have h1 : (a + 256 * b + 65536 * c + 16777216 * d) % 256 = a := by omega
  have h2 : (a + 256 * b + 65536 * c + 16777216 * d) / 256 % 256 = b := by omega
  have h3 : (a + 256 * b + 65536 * c + 16777216 * d) / 65536 % 256 = c := by omega
  have h4 : (a + 256 * b + 65536 * c + 16777216 * d) / 16777216 % 256 = d := by omega
  rw [le4, h1, h2, h3, h4]
theorem of_le4 (v : Nat) (h : v < 4294967296) : ((v % 256 : Nat) : Int) + 256 * ((v / 256 % 256 : Nat) : Int) + 65536 * ((v / 65536 % 256 : Nat) : Int) + 16777216 * ((v / 16777216 % 256 : Nat) : Int) = (v : Int) := by omega

/-- What is put is read. -/
theorem getX_frame {p : Pk} (h : pkOk p = true) : getX (frameB p) = (p, 0) := by
  have hc := h
  obtain ⟨h1, h2, h3, h4, h5, h6, h7, h8⟩ := pkOk_in h
  have hm : p.meth.size < 2 ^ 64 := by
    rcases h6 with h6 | h6
    · omega
    · have := nameG_small p.meth h6
      omega
  have hg : getF (frameB p) 9 = ((p.meth.size : Int), ((9 + (enc 10 p.meth.size).length : Nat) : Int), 0) := getF_enc (headB p) (bytesOf p.meth ++ bytesOf p.body) p.meth.size hm
  have hl : (frameB p).length = 9 + ((enc 10 p.meth.size).length + (p.meth.size + p.body.size)) := by
    rw [frameB, List.length_append, List.length_append, List.length_append, bytesOf_length, bytesOf_length, head_length]
  have hd : (frameB p).drop (9 + (enc 10 p.meth.size).length) = bytesOf p.meth ++ bytesOf p.body := by
    rw [frameB, ← List.append_assoc, List.drop_left' (by rw [List.length_append, head_length])]
  have hr : readB (frameB p) p.meth.size (9 + (enc 10 p.meth.size).length) = p := by
    have e1 : ((frameB p).drop (9 + (enc 10 p.meth.size).length)).take p.meth.size = bytesOf p.meth := by
      rw [hd, List.take_left' (bytesOf_length _)]
    have e2 : (frameB p).drop (9 + (enc 10 p.meth.size).length + p.meth.size) = bytesOf p.body := by
      rw [← List.drop_drop, hd, List.drop_left' (bytesOf_length _)]
    rw [readB, e1, e2, nums_bytes, nums_bytes]
    have e3 : (frameB p).getD 5 0 + 256 * (frameB p).getD 6 0 + 65536 * (frameB p).getD 7 0 + 16777216 * (frameB p).getD 8 0 = p.id := by
      have := of_le4 p.id.toNat (by omega)
      rw [show ((p.id.toNat : Nat) : Int) = p.id by omega] at this
      exact this
    rw [e3]
    rfl
  rw [getX, hg]
  simp only [ne_eq, not_true_eq_false, false_or, Int.toNat_natCast]
  rw [if_neg (by rw [hl]; omega), hr, if_pos hc]
theorem crcF_get {p : Pk} (h : pkOk p = true) : getB (putB p) = (p, 0) := by
  have h4 : (le4 (crcF 0 (frameB p))).length = 4 := rfl
  have hl : 14 ≤ (putB p).length := by
    have h9 : 0 < (enc 10 p.meth.size).length := enc_length_pos 9 p.meth.size
    have hf : 10 ≤ (frameB p).length := by
      rw [frameB, List.length_append, List.length_append, List.length_append, head_length]
      omega
    rw [putB, List.length_append, h4]
    omega
  have hd : (putB p).drop 4 = frameB p := by rw [putB, List.drop_left' h4]
  have ht : (putB p).take 4 = le4 (crcF 0 (frameB p)) := by rw [putB, List.take_left' h4]
  rw [getB, if_neg (by omega), hd, ht, if_neg (by simp), getX_frame h]
/-- What is read is what is put. -/
theorem frame_getX (x : List Int) (hw : ∀ y ∈ x, 0 ≤ y ∧ y ≤ 255) (hl : 10 ≤ x.length) (p : Pk) (h : getX x = (p, 0)) : pkOk p = true ∧ frameB p = x := by
  rw [getX] at h
  by_cases c1 : (getF x 9).2.2 ≠ 0 ∨ ((x.length : Int) - (getF x 9).2.1 < (getF x 9).1)
  · rw [if_pos c1] at h; simp at h
  · rw [if_neg c1] at h
    obtain ⟨n, b, e, hg⟩ : ∃ n b e, getF x 9 = (n, b, e) := ⟨_, _, _, rfl⟩
    rw [hg] at h c1
    simp only at h c1
    have he : e = 0 := by omega
    subst he
    obtain ⟨m, r, rfl, hm, rfl, hr⟩ := getF_canon x 9 n b (by omega) hw hg
    simp only [Int.toNat_natCast] at h
    by_cases c2 : pkOk (readB x m (9 + (enc 10 m).length)) = true
    · rw [if_pos c2] at h
      simp only [Prod.mk.injEq, and_true] at h
      subst h
      refine ⟨c2, ?_⟩
      have hlr : x.length = 9 + ((enc 10 m).length + r.length) := by
        have := congrArg List.length hr
        rw [List.length_drop, List.length_append] at this
        omega
      have hd : x.drop (9 + (enc 10 m).length) = r := by rw [← List.drop_drop, hr, List.drop_left' rfl]
      have hwr : ∀ y ∈ r, 0 ≤ y ∧ y ≤ 255 := fun y hy => hw y (List.mem_of_mem_drop (by rw [hd]; exact hy))
      have hmr : m ≤ r.length := by omega
      have hsz : (strOfNums (r.take m)).size = m := by rw [strOfNums_size, List.length_take]; omega
      have e1 : bytesOf (strOfNums (r.take m)) = r.take m := bytes_nums _ (fun y hy => hwr y (List.mem_of_mem_take hy))
      have e2 : bytesOf (strOfNums (r.drop m)) = r.drop m := bytes_nums _ (fun y hy => hwr y (List.mem_of_mem_drop hy))
      have e3 : readB x m (9 + (enc 10 m).length) = ⟨x.getD 0 0, x.getD 1 0, x.getD 2 0, x.getD 5 0 + 256 * x.getD 6 0 + 65536 * x.getD 7 0 + 16777216 * x.getD 8 0, x.getD 3 0, strOfNums (r.take m), x.getD 4 0, strOfNums (r.drop m)⟩ := by
        rw [readB, hd, ← List.drop_drop, hd]
      rw [e3, frameB]
      simp only
      rw [hsz, e1, e2, List.take_append_drop, ← hr]
      have hx9 : x = x.take 9 ++ x.drop 9 := (List.take_append_drop 9 x).symm
      obtain ⟨x0, x1, x2, x3, x4, x5, x6, x7, x8, t, rfl⟩ : ∃ x0 x1 x2 x3 x4 x5 x6 x7 x8 t, x = x0 :: x1 :: x2 :: x3 :: x4 :: x5 :: x6 :: x7 :: x8 :: t := by
        rcases x with _ | ⟨x0, _ | ⟨x1, _ | ⟨x2, _ | ⟨x3, _ | ⟨x4, _ | ⟨x5, _ | ⟨x6, _ | ⟨x7, _ | ⟨x8, t⟩⟩⟩⟩⟩⟩⟩⟩⟩
        all_goals first
          | exact ⟨_, _, _, _, _, _, _, _, _, _, rfl⟩
          | (exfalso; simp at hl)
      have b5 := hw x5 (by simp)
      have b6 := hw x6 (by simp)
      have b7 := hw x7 (by simp)
      have b8 := hw x8 (by simp)
      obtain ⟨y5, rfl⟩ : ∃ y : Nat, x5 = (y : Int) := ⟨x5.toNat, by omega⟩
      obtain ⟨y6, rfl⟩ : ∃ y : Nat, x6 = (y : Int) := ⟨x6.toNat, by omega⟩
      obtain ⟨y7, rfl⟩ : ∃ y : Nat, x7 = (y : Int) := ⟨x7.toNat, by omega⟩
      obtain ⟨y8, rfl⟩ : ∃ y : Nat, x8 = (y : Int) := ⟨x8.toNat, by omega⟩
      have hid : ((y5 : Int) + 256 * (y6 : Int) + 65536 * (y7 : Int) + 16777216 * (y8 : Int)).toNat = y5 + 256 * y6 + 65536 * y7 + 16777216 * y8 := by omega
      simp only [headB, List.getD_cons_zero, List.getD_cons_succ]
      rw [hid, four_of _ _ _ _ (by omega) (by omega) (by omega) (by omega)]
      rfl
    · rw [if_neg c2] at h; simp at h
/-- Bytes are a packet's just if that one is put so. -/
theorem put_getB (b : List Int) (hw : ∀ y ∈ b, 0 ≤ y ∧ y ≤ 255) (p : Pk) (h : getB b = (p, 0)) : pkOk p = true ∧ putB p = b := by
  rw [getB] at h
  by_cases c1 : b.length < 14
  · rw [if_pos c1] at h; simp at h
  · rw [if_neg c1] at h
    by_cases c2 : le4 (crcF 0 (b.drop 4)) ≠ b.take 4
    · rw [if_pos c2] at h; simp at h
    · rw [if_neg c2] at h
      obtain ⟨h1, h2⟩ := frame_getX (b.drop 4) (fun y hy => hw y (List.mem_of_mem_drop hy)) (by rw [List.length_drop]; omega) p h
      refine ⟨h1, ?_⟩
      rw [putB, h2]
      have : le4 (crcF 0 (b.drop 4)) = b.take 4 := by
        by_cases e : le4 (crcF 0 (b.drop 4)) = b.take 4
        · exact e
        · exact absurd e c2
      rw [this, List.take_append_drop]
theorem getX_err (x : List Int) : (getX x).2 = 0 ∨ (getX x = (pk0, 3)) := by
  unfold getX
  split
  · exact .inr rfl
  · split
    · exact .inl rfl
    · exact .inr rfl
theorem getB_err (b : List Int) : (getB b).2 = 0 ∨ (getB b).1 = pk0 := by
  unfold getB
  split
  · exact .inr rfl
  · split
    · exact .inr rfl
    · rcases getX_err (b.drop 4) with h | h
      · exact .inl h
      · exact .inr (by rw [h])
end Go.Proofs.YtabcaeckoghmpaaDoor
