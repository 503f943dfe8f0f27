/- Plain: a list's bytes; the sum of bytes. -/
import Derived.Test.YtmjodcackmjllaaQ4
import Derived.Test.YtmjodcackmjllaaW8
import Derived.Test.YtmjodcackmjllaaW9
namespace Go.Proofs.Ytmjodcackmjllaa
open Go.RowKit
set_option linter.unusedVariables false
set_option linter.unusedSimpArgs false
def modeBytes (x : RM) : List Nat := (ones x.ds x.ds.length ++ [truTo x.es x.es.length]) ++ [truTo x.ns x.ns.length]
def headB (m : RMedl) : List Nat := ((([] ++ ones [77, m.nodes, (m.xs.length : Int)] 3) ++ fours [m.slot.toNat, m.gap.toNat, m.window.toNat] 3) ++ ones [m.drift, m.delay] 2) ++ [truTo m.cs m.cs.length]
def bodyTo (m : RMedl) (k : Nat) : List Nat := headB m ++ (m.xs.take k).flatMap modeBytes
theorem bodyTo_zero (m : RMedl) : bodyTo m 0 = headB m := by simp [bodyTo]
theorem bodyTo_succ (m : RMedl) (k : Nat) (h : k < m.xs.length) : bodyTo m (k + 1) = ((bodyTo m k ++ ones m.xs[k].ds m.xs[k].ds.length) ++ [truTo m.xs[k].es m.xs[k].es.length]) ++ [truTo m.xs[k].ns m.xs[k].ns.length] := by
  unfold bodyTo
  rw [List.take_add_one, List.getElem?_eq_getElem h, List.flatMap_append]
  simp [modeBytes]
theorem headB_len (m : RMedl) : (headB m).length = 18 := rfl
theorem ones_lt (zs : List Int) (k : Nat) : ∀ x ∈ ones zs k, x < 256 := by
  intro x hx
  simp only [ones, List.mem_map] at hx
  obtain ⟨z, -, rfl⟩ := hx
  omega
theorem be4_lt (n : Nat) : ∀ x ∈ be4 n, x < 256 := by
  intro x hx
  simp only [be4, List.mem_cons, List.not_mem_nil, or_false] at hx
  omega
theorem fours_lt (zs : List Nat) (k : Nat) : ∀ x ∈ fours zs k, x < 256 := by
  intro x hx
  simp only [fours, List.mem_flatMap] at hx
  obtain ⟨z, -, h⟩ := hx
  exact be4_lt z x h
theorem truTo_byte (bs : List Bool) (h : bs.length ≤ 8) : truTo bs bs.length < 256 := Nat.lt_of_lt_of_le (truTo_lt bs _) (Nat.pow_le_pow_right (by decide) h : _ ≤ 2 ^ 8)
/-- a list may be: how long its modes are -/
structure Fit (m : RMedl) : Prop where
  n1 : 4 ≤ m.nodes
  n2 : m.nodes ≤ 8
  x1 : 1 ≤ m.xs.length
  x2 : m.xs.length ≤ 4
  c : (m.cs.length : Int) = m.nodes
  d : ∀ x ∈ m.xs, (x.ds.length : Int) = m.nodes ∧ (x.es.length : Int) = m.nodes ∧ x.ns.length = m.xs.length ∧ ∀ k, k < x.ds.length → 0 ≤ x.ds.getD k 0 ∧ x.ds.getD k 0 ≤ 8
  drift : 0 ≤ m.drift ∧ m.drift ≤ 64
  delay : 0 ≤ m.delay ∧ m.delay ≤ 64
  window : 16 ≤ m.window ∧ m.window ≤ 1048576
  gap : 36 ≤ m.gap ∧ m.gap ≤ 1048576
  slot : 0 ≤ m.slot ∧ m.slot ≤ 16777216
theorem medlOk_fit {m : RMedl} (h : medlOk m = true) : Fit m := by
  obtain ⟨h1, h2, h3⟩ := (medlOk_iff m).1 h
  obtain ⟨a1, a2, a3, a4, a5, a6⟩ := (countsOk_iff m).1 h1
  obtain ⟨b1, b2, b3, b4, b5, b6, b7, b8, b9, b10⟩ := (numsOk_iff m).1 h3
  have hp : 0 ≤ m.nodes * m.drift := Int.mul_nonneg (by omega) b1
  have hair : 34 ≤ m.mair ∧ m.mair ≤ 4000 := mairI_le _ _
  rw [Int.mul_assoc] at b8
  refine ⟨a1, a2, a3, a4, a5, fun x hx => ?_, ⟨b1, b2⟩, ⟨b3, b4⟩, ⟨by omega, b5⟩, ⟨by omega, b6⟩, ⟨by omega, b7⟩⟩
  have hm := List.all_eq_true.1 h2 x hx
  simp only [modeOk, Bool.and_eq_true, decide_eq_true_eq, dataOk] at hm
  obtain ⟨⟨c1, c2, c3⟩, c4⟩ := hm
  exact ⟨c1, c2, c3, fun k hk => (c4 k hk).1⟩
theorem bodyTo_len {m : RMedl} (h : Fit m) (k : Nat) (hk : k ≤ m.xs.length) : (bodyTo m k).length = 18 + k * (m.nodes.toNat + 2) := by
  induction k with
  | zero => rw [bodyTo_zero, headB_len]; omega
  | succ k ih =>
    have hx := h.d _ (List.getElem_mem (h := hk))
    rw [bodyTo_succ m k hk]
    simp only [List.length_append, ih (by omega), ones_len _ _ (Nat.le_refl _), List.length_cons, List.length_nil, Nat.add_mul]
    omega
theorem headB_lt {m : RMedl} (h : Fit m) : ∀ x ∈ headB m, x < 256 := by
  intro x hx
  simp only [headB, List.nil_append, List.mem_append, List.mem_cons, List.not_mem_nil, or_false] at hx
  rcases hx with ((hx | hx) | hx) | hx
  · exact ones_lt _ _ x hx
  · exact fours_lt _ _ x hx
  · exact ones_lt _ _ x hx
  · rw [hx]; exact truTo_byte _ (by have := h.c; have := h.n2; omega)
theorem bodyTo_lt {m : RMedl} (h : Fit m) (k : Nat) : ∀ x ∈ bodyTo m k, x < 256 := by
  intro x hx
  simp only [bodyTo, List.mem_append, List.mem_flatMap] at hx
  rcases hx with hx | ⟨y, hy, hx⟩
  · exact headB_lt h x hx
  · obtain ⟨d1, d2, d3, -⟩ := h.d y (List.mem_of_mem_take hy)
    have := h.n2; have := h.x2
    simp only [modeBytes, List.mem_append, List.mem_cons, List.not_mem_nil, or_false] at hx
    rcases hx with (hx | hx) | hx
    · exact ones_lt _ _ x hx
    · rw [hx]; exact truTo_byte _ (by omega)
    · rw [hx]; exact truTo_byte _ (by omega)
/-- the sum of bytes -/
def sumN (l : List Nat) : Nat := crcOver 0 (unpack (8 * l.length) l)
theorem sumN_lt (l : List Nat) : sumN l < 16777216 := crcOver_lt _ _ (by decide)
def medlBody (m : RMedl) : List Nat := bodyTo m m.xs.length
def medlBytes (m : RMedl) : List Nat := medlBody m ++ ones [(sumN (medlBody m) : Int) / 65536, (sumN (medlBody m) : Int) / 256, (sumN (medlBody m) : Int)] 3
def bytesRes (m : RMedl) : List Nat := cond (medlOk m) (medlBytes m) []
theorem medlBody_len {m : RMedl} (h : Fit m) : (medlBody m).length = 18 + m.xs.length * (m.nodes.toNat + 2) := bodyTo_len h _ (Nat.le_refl _)
theorem medlBody_le {m : RMedl} (h : Fit m) : (medlBody m).length ≤ 58 := by
  rw [medlBody_len h]
  have := h.n2; have := h.x2
  have : m.xs.length * (m.nodes.toNat + 2) ≤ 4 * 10 := Nat.mul_le_mul (by omega) (by omega)
  omega
theorem medlBytes_len {m : RMedl} (h : Fit m) : (medlBytes m).length = 18 + m.xs.length * (m.nodes.toNat + 2) + 3 := by
  unfold medlBytes
  rw [List.length_append, medlBody_len h, ones_len _ _ (by simp)]
theorem medlBytes_lt {m : RMedl} (h : Fit m) : ∀ x ∈ medlBytes m, x < 256 := by
  intro x hx
  simp only [medlBytes, List.mem_append] at hx
  rcases hx with hx | hx
  · exact bodyTo_lt h _ x hx
  · exact ones_lt _ _ x hx
theorem chk_bytes (l : List Nat) (h : l.length ≤ 512) : chk (8 * l.length : Nat) l = true := by
  simp only [chk, Bool.and_eq_true, Bool.or_eq_true, decide_eq_true_eq, Int.toNat_natCast]
  exact ⟨by omega, by omega, by omega, .inl (by omega)⟩
theorem RowV.row8 {w : World} {a : Option Addr} {l : List Nat} (h : RowV w a l.length (u8s l)) : Row w .u8 a l.length l := by
  refine ⟨rfl, fun i hi => ?_⟩
  obtain ⟨b, off, hab, hc⟩ := h.2 i hi
  refine ⟨b, off, hab, hc.trans ?_⟩
  simp [u8s, hi]
theorem RBs.one' {w : World} {b t : Nat} {x : RB} (hb : Box w b t #[.int .i64 x.n, .slice x.a x.len x.cap]) (hx : x.In w) : RBs w (some ⟨b, 0, none⟩) 1 1 [x] := by
  refine ⟨rfl, by decide, by decide, by decide, fun y hy => by simp at hy; subst hy; exact hx, fun i hi => ?_⟩
  simp at hi
  subst hi
  exact ⟨b, 0, rfl, hb.cell 0 _ rfl, hb.cell 1 _ rfl⟩
theorem sumRes_bytes (a : Option Addr) (cap : Nat) (l : List Nat) (h : l.length ≤ 512) : sumRes [⟨(8 * l.length : Nat), a, l.length, cap, l⟩] = (sumN l, 0) := by
  rw [sumRes_yes]
  · have e : ((8 * l.length : Nat) : Int).toNat = 8 * l.length := Int.toNat_natCast _
    simp only [sumTo, sumN, RB.bits, List.take, List.length_cons, List.length_nil, List.foldl, e]
  · intro i hi
    simp at hi
    subst hi
    exact chk_bytes l h
set_option maxRecDepth 100000 in
set_option maxHeartbeats 2000000 in
theorem msum_any (a : Option Addr) (cap : Nat) (l : List Nat) (w : World) (hr : RowV w a l.length (u8s l)) (hc : l.length ≤ cap) (hc2 : cap ≤ 9223372036854775807) (hl : l.length ≤ 512) (hb : ∀ x ∈ l, x < 256) :
    Calls Try.prog 90 #[.slice a l.length cap] w fun e w' => e = .returned (.int .u32 (sumN l)) ∧ Keeps w w' := by
  have hIn : (RB.mk (8 * l.length : Nat) a l.length cap l).In w := ⟨by simp only; omega, by simp only; omega, hc, hc2, hb, hr.row8⟩
  have hS := sumRes_bytes a cap l hl
  have hN : ((8 * l.length : Nat) : Int) = 8 * (l.length : Int) := by omega
  rw [hN] at hIn hS
  clear hN
  have HI := Lib.hid hIn
  have HB := Lib.hid (Box.new w 108 #[.int .i64 (8 * (l.length : Int)), .slice a l.length cap])
  have HK := Lib.hid ((Keeps.refl w).alloc (.cells #[.int .i64 (8 * (l.length : Int)), .slice a l.length cap] 108))
  have HS := Lib.hid hS
  clear hIn hr hb hS
  go_enter Try.func90, Try.ntmps90
  go_wp2_with fail
  with_reducible refine (sum_any _ 1 1 [⟨(8 * (l.length : Int)), a, l.length, cap, l⟩] _ (by exact RBs.one' HB.out (HI.out.keeps HK.out))).mono ?_
  rw [HS.out]
  rintro e w1 ⟨rfl, hk1⟩
  have HK1 := Lib.hid (HK.out.trans hk1)
  clear hk1
  go_wp2_with fail
  go_ret
  exact ⟨rfl, HK1.out⟩
end Go.Proofs.Ytmjodcackmjllaa
