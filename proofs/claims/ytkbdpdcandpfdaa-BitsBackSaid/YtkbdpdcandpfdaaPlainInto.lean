/- Plain facts on bits put into others. No program in sight. -/
import Derived.Test.YtkbdpdcandpfdaaPlainBits2
import Derived.Test.YtkbdpdcandpfdaaBase2
namespace Go.Proofs.Ytkbdpdcandpfdaa
set_option linter.unusedVariables false
set_option linter.unusedSimpArgs false

/-- hd, then the first k of ps, then zeros up to r -/
def inTo (hd : List Bool) (r : Nat) (ps : List Bool) (k : Nat) : List Bool := hd ++ (ps.take k ++ List.replicate (r - k) false)
theorem inTo_zero (hd : List Bool) (r : Nat) (ps : List Bool) : inTo hd r ps 0 = hd ++ List.replicate r false := by simp [inTo]
theorem inTo_all (hd : List Bool) (r : Nat) (ps : List Bool) : inTo hd r ps ps.length = hd ++ (ps ++ List.replicate (r - ps.length) false) := by simp [inTo]
theorem inTo_len (hd : List Bool) (r : Nat) (ps : List Bool) (k : Nat) (h1 : k ≤ ps.length) (h2 : k ≤ r) : (inTo hd r ps k).length = hd.length + r := by
  simp [inTo]; omega
theorem inTo_no (hd : List Bool) (r : Nat) (ps : List Bool) (k : Nat) (h1 : k < ps.length) (h2 : k < r) (hb : ps.getD k false = false) : inTo hd r ps (k + 1) = inTo hd r ps k := by
  unfold inTo
  rw [List.take_succ_eq_append_getElem h1, List.append_assoc]
  have e : ps[k] = false := by simpa [List.getD_eq_getElem?_getD, h1] using hb
  rw [e, show r - k = (r - (k + 1)) + 1 by omega, List.replicate_succ]
  rfl
theorem inTo_yes (hd : List Bool) (r : Nat) (ps : List Bool) (k : Nat) (h1 : k < ps.length) (h2 : k < r) (hb : ps.getD k false = true) : inTo hd r ps (k + 1) = (inTo hd r ps k).set (hd.length + k) true := by
  unfold inTo
  rw [List.take_succ_eq_append_getElem h1, List.append_assoc]
  have e : ps[k] = true := by simpa [List.getD_eq_getElem?_getD, h1] using hb
  have hz : hd.length + k - hd.length - (ps.take k).length = 0 := by simp; omega
  rw [e, List.set_append_right _ _ (by omega), List.set_append_right _ _ (by simp; omega), hz, show r - k = (r - (k + 1)) + 1 by omega, List.replicate_succ, List.set_cons_zero]
  rfl

/-- a part of some bits -/
def part (bs : List Bool) (f t : Nat) : List Bool := (bs.drop f).take (t - f)
theorem part_len (bs : List Bool) (f t : Nat) (h : t ≤ bs.length) : (part bs f t).length = t - f := by simp [part]; omega
theorem part_getD (bs : List Bool) (f t k : Nat) (h : t ≤ bs.length) (hk : k < t - f) : (part bs f t).getD k false = bs.getD (f + k) false := by
  unfold part
  rw [List.getD_eq_getElem?_getD, List.getElem?_take, if_pos hk, List.getElem?_drop, List.getD_eq_getElem?_getD]
theorem part_zero (bs : List Bool) (t : Nat) : part bs 0 t = bs.take t := by simp [part]
theorem part_all (bs : List Bool) : part bs 0 bs.length = bs := by simp [part]

theorem bitAt_over (L : List Nat) (q : Nat) (m : List Nat) (i : Nat) (h : q + m.length ≤ L.length) :
    bitAt (over L q m) i = if i / 8 < q then bitAt L i else if i / 8 < q + m.length then bitAt m (i - 8 * q) else bitAt L i := by
  unfold bitAt over
  simp only [List.getD_eq_getElem?_getD]
  have hl : (L.take q).length = q := by simp; omega
  by_cases h1 : i / 8 < q
  · rw [if_pos h1, List.getElem?_append_left (by omega), List.getElem?_take, if_pos h1]
  · rw [if_neg h1, List.getElem?_append_right (by omega), hl]
    by_cases h2 : i / 8 < q + m.length
    · rw [if_pos h2, List.getElem?_append_left (by omega), show (i - 8 * q) / 8 = i / 8 - q by omega, show (i - 8 * q) % 8 = i % 8 by omega]
    · rw [if_neg h2, List.getElem?_append_right (by omega), List.getElem?_drop, show q + m.length + (i / 8 - q - m.length) = i / 8 by omega]
theorem bitAt_drop (L : List Nat) (p i : Nat) : bitAt (L.drop p) i = bitAt L (i + 8 * p) := by
  unfold bitAt
  simp only [List.getD_eq_getElem?_getD, List.getElem?_drop]
  rw [show (i + 8 * p) / 8 = p + i / 8 by omega, show (i + 8 * p) % 8 = i % 8 by omega]
theorem getD_app (a b : List Bool) (i : Nat) : (a ++ b).getD i false = if i < a.length then a.getD i false else b.getD (i - a.length) false := by
  simp only [List.getD_eq_getElem?_getD, List.getElem?_append]
  split <;> rfl
theorem getD_rep (n i : Nat) : (List.replicate n false).getD i false = false := by
  simp only [List.getD_eq_getElem?_getD, List.getElem?_replicate]
  split <;> rfl
/-- whole bytes put behind whole bytes -/
theorem over_pack (hd : List Bool) (r q p : Nat) (bs : List Bool) (hq : hd.length = 8 * q) (hp : 8 * p ≤ bs.length) (hr : bs.length - 8 * p ≤ r) :
    over (pack (hd ++ List.replicate r false)) q ((pack bs).drop p) = pack (hd ++ (part bs (8 * p) bs.length ++ List.replicate (r - (bs.length - 8 * p)) false)) := by
  have hl1 : (pack (hd ++ List.replicate r false)).length = (hd.length + r + 7) / 8 := by rw [pack_len]; simp
  have hl2 : ((pack bs).drop p).length = (bs.length + 7) / 8 - p := by rw [List.length_drop, pack_len]
  have hpl := part_len bs (8 * p) bs.length (Nat.le_refl _)
  have hfit : q + ((pack bs).drop p).length ≤ (pack (hd ++ List.replicate r false)).length := by rw [hl1, hl2]; omega
  apply bytes_ext
  · rw [over_len _ _ _ hfit, hl1, pack_len]
    simp only [List.length_append, List.length_replicate, hpl]
    omega
  · intro x hx
    unfold over at hx
    simp only [List.mem_append] at hx
    rcases hx with hx | hx | hx
    · exact pack_lt _ x (List.mem_of_mem_take hx)
    · exact pack_lt _ x (List.mem_of_mem_drop hx)
    · exact pack_lt _ x (List.mem_of_mem_drop hx)
  · exact pack_lt _
  intro i hi
  rw [over_len _ _ _ hfit, hl1] at hi
  rw [bitAt_over _ _ _ _ hfit, hl2, bitAt_drop, bitAt_pack, bitAt_pack, bitAt_pack, getD_app, getD_app, getD_app, getD_rep, getD_rep, hpl]
  by_cases h1 : i / 8 < q
  · rw [if_pos h1, if_pos (show i < hd.length by omega), if_pos (show i < hd.length by omega)]
  · rw [if_neg h1, if_neg (show ¬ i < hd.length by omega), if_neg (show ¬ i < hd.length by omega)]
    by_cases h2 : i - hd.length < bs.length - 8 * p
    · rw [if_pos (show i / 8 < q + ((bs.length + 7) / 8 - p) by omega), if_pos h2, part_getD _ _ _ _ (Nat.le_refl _) h2]
      congr 1
      omega
    · rw [if_neg h2]
      split
      · exact getD_out _ (by omega)
      · rfl

/-- the end of a row -/
theorem Row.cut {w : World} {k : IntKind} {a : Option Addr} {n : Nat} {l : List Nat} (h : Row w k a n l) (p cap : Nat) (h1 : p ≤ n) (hc : n ≤ cap) :
    Row w k (if cap = p then a else a.map fun x => x.add p) (n - p) (l.drop p) := by
  have hl := h.1
  refine ⟨by simp; omega, fun i hi => ?_⟩
  obtain ⟨b, off, hab, hv⟩ := h.2 (p + i) (by omega)
  subst hab
  have e : (l.drop p).getD i 0 = l.getD (p + i) 0 := by
    simp only [List.getD_eq_getElem?_getD, List.getElem?_drop]
  rw [e, if_neg (by omega)]
  by_cases h0 : p = 0
  · subst h0
    exact ⟨b, off, rfl, by simpa using hv⟩
  · exact ⟨b, off + p, by simp [Addr.add, h0], by rw [Nat.add_assoc]; exact hv⟩
theorem cut_addr (g q cap : Nat) (h : q < cap) : (if cap = q then some (⟨g, 0, none⟩ : Addr) else (some (⟨g, 0, none⟩ : Addr)).map fun x => x.add q) = some ⟨g, q, none⟩ := by
  rw [if_neg (by omega)]
  by_cases h0 : q = 0
  · subst h0; simp [Addr.add]
  · simp [Addr.add, h0]
end Go.Proofs.Ytkbdpdcandpfdaa
