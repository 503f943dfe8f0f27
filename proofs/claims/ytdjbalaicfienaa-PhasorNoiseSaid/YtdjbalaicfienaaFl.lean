/- Plain: floats that stand for whole numbers. -/
import Derived.Laws.ComplexArith
namespace Go.Proofs.Ytdjbalaicfienaa
open Go
set_option linter.unusedVariables false
set_option linter.unusedSimpArgs false
def sg (s : Bool) : Int := if s then -1 else 1
theorem sg_not (s : Bool) : sg (!s) = - sg s := by cases s <;> rfl
theorem sg_xor (s t : Bool) : sg (s ^^ t) = sg s * sg t := by cases s <;> cases t <;> rfl
theorem signed_eq (s : Bool) (m u : Nat) : Ieee.signed s m u = sg s * ((m : Int) * 2 ^ u) := by
  unfold Ieee.signed sg
  rw [Nat.shiftLeft_eq]
  cases s <;> simp
/-- a datum that stands for a whole number -/
def DInt (d : Ieee.Datum) (n : Int) : Prop := ∃ s m e, d = .number s m e ∧ sg s * ((m : Int) * 2 ^ e.toNat) = n * 2 ^ (-e).toNat
theorem two_pos (k : Nat) : (0 : Int) < 2 ^ k := Int.pow_pos (by decide)
theorem two_ne (k : Nat) : (2 : Int) ^ k ≠ 0 := Int.ne_of_gt (two_pos k)
theorem shift_to {A x : Int} {i base : Int} (hb : base ≤ i) (h : A * 2 ^ i.toNat = x * 2 ^ (-i).toNat) : A * 2 ^ (i - base).toNat * 2 ^ base.toNat = x * 2 ^ (-base).toNat := by
  have e : (i - base).toNat + base.toNat + (-i).toNat = i.toNat + (-base).toNat := by omega
  refine Int.eq_of_mul_eq_mul_right (two_ne (-i).toNat) ?_
  rw [Int.mul_assoc, Int.mul_assoc, ← Int.pow_add, ← Int.pow_add, show (i - base).toNat + (base.toNat + (-i).toNat) = i.toNat + (-base).toNat by omega, Int.pow_add, ← Int.mul_assoc, h]
  rw [Int.mul_assoc, Int.mul_assoc, Int.mul_comm (2 ^ (-i).toNat)]
theorem DInt.sum {a b : Ieee.Datum} {x y : Int} (ha : DInt a x) (hb : DInt b y) : ∃ d, a.sum b = some d ∧ DInt d (x + y) := by
  obtain ⟨s, m, i, rfl, h1⟩ := ha
  obtain ⟨t, n, j, rfl, h2⟩ := hb
  refine ⟨_, rfl, _, _, _, rfl, ?_⟩
  have k1 := shift_to (Int.min_le_left i j) (by rw [← h1, Int.mul_assoc])
  have k2 := shift_to (Int.min_le_right i j) (by rw [← h2, Int.mul_assoc])
  rw [signed_eq, signed_eq]
  obtain ⟨base, hbase⟩ : ∃ base, base = min i j := ⟨_, rfl⟩
  rw [← hbase] at k1 k2 ⊢
  obtain ⟨T, hT⟩ : ∃ T, T = sg s * ((m : Int) * 2 ^ (i - base).toNat) + sg t * ((n : Int) * 2 ^ (j - base).toNat) := ⟨_, rfl⟩
  rw [← hT]
  have hk : T * 2 ^ base.toNat = (x + y) * 2 ^ (-base).toNat := by
    rw [hT, Int.add_mul, Int.add_mul, ← k1, ← k2, Int.mul_assoc, Int.mul_assoc]
    simp only [Int.mul_assoc]
  rw [← hk, ← Int.mul_assoc]
  congr 1
  by_cases h0 : T = 0
  · rw [if_pos h0, h0]; simp
  · rw [if_neg h0]
    unfold sg
    by_cases hn : T < 0
    · simp [hn]; omega
    · simp [hn]; omega
theorem DInt.product {a b : Ieee.Datum} {x y : Int} (ha : DInt a x) (hb : DInt b y) : ∃ d, a.product b = some d ∧ DInt d (x * y) := by
  obtain ⟨s, m, i, rfl, h1⟩ := ha
  obtain ⟨t, n, j, rfl, h2⟩ := hb
  refine ⟨_, rfl, _, _, _, rfl, ?_⟩
  refine Int.eq_of_mul_eq_mul_right (two_ne ((-i).toNat + (-j).toNat)) ?_
  have e : (i + j).toNat + ((-i).toNat + (-j).toNat) = (i.toNat + j.toNat) + (-(i + j)).toNat := by omega
  have hh : (sg s * ((m : Int) * 2 ^ i.toNat)) * (sg t * ((n : Int) * 2 ^ j.toNat)) = (x * 2 ^ (-i).toNat) * (y * 2 ^ (-j).toNat) := by rw [h1, h2]
  have l1 : sg (s ^^ t) * (((m * n : Nat) : Int) * 2 ^ (i + j).toNat) * 2 ^ ((-i).toNat + (-j).toNat) = (sg s * sg t * ((m : Int) * n)) * 2 ^ ((i + j).toNat + ((-i).toNat + (-j).toNat)) := by
    rw [sg_xor, Int.natCast_mul, Int.pow_add _ (i + j).toNat]
    simp only [Int.mul_assoc]
  have l2 : (sg s * sg t * ((m : Int) * n)) * 2 ^ ((i.toNat + j.toNat) + (-(i + j)).toNat) = (sg s * ((m : Int) * 2 ^ i.toNat)) * (sg t * ((n : Int) * 2 ^ j.toNat)) * 2 ^ (-(i + j)).toNat := by
    rw [Int.pow_add, Int.pow_add]
    ac_rfl
  rw [l1, e, l2, hh, Int.pow_add]
  ac_rfl
theorem DInt.opposite {a : Ieee.Datum} {x : Int} (ha : DInt a x) : DInt a.opposite (-x) := by
  obtain ⟨s, m, i, rfl, h1⟩ := ha
  refine ⟨_, _, _, rfl, ?_⟩
  rw [sg_not, Int.neg_mul, h1, Int.neg_mul]
theorem log2_shift (k d : Nat) (hk : 0 < k) : (k * 2 ^ d).log2 = k.log2 + d := by
  have hp := Nat.two_pow_pos d
  have h0 : k * 2 ^ d ≠ 0 := Nat.ne_of_gt (Nat.mul_pos hk hp)
  refine (Nat.log2_eq_iff h0).2 ⟨?_, ?_⟩
  · rw [Nat.pow_add]; exact Nat.mul_le_mul_right _ (Nat.log2_self_le (by omega))
  · rw [show k.log2 + d + 1 = (k.log2 + 1) + d by omega, Nat.pow_add]; exact Nat.mul_lt_mul_of_pos_right Nat.lt_log2_self hp
/-- a cut where nothing is cut off -/
theorem cut_exact (way : Ieee.Toward) (s : Bool) (k drop : Nat) (hk : 0 < k) : way.cut s (k * 2 ^ drop) drop = k := by
  have hl : min drop ((k * 2 ^ drop).log2 + 2) = drop := by
    refine Nat.min_eq_left ?_
    rw [log2_shift _ _ hk]
    omega
  unfold Ieee.Toward.cut
  dsimp only
  rw [hl, Nat.shiftLeft_eq, Nat.one_mul, Nat.mul_div_cancel _ (Nat.two_pow_pos drop), Nat.mul_mod_left]
  have hp := Nat.two_pow_pos drop
  cases way <;> simp
theorem bin_d : Ieee.double.binade = 2 ^ 52 := rfl
theorem inf_d : Ieee.double.infRung = 2047 * 2 ^ 52 := rfl
theorem sign_d : Ieee.double.signWeight = 2 ^ 63 := rfl
theorem least_d : Ieee.double.leastPlace = -1074 := by decide
theorem frac_d : Ieee.double.fractionBits = 52 := rfl
theorem word_read (s : Bool) (rung : Nat) (h : rung < 2 ^ 63) : (Ieee.double.word s rung / 2 ^ 63 % 2 == 1) = s ∧ Ieee.double.word s rung % 2 ^ 63 = rung := by
  unfold Ieee.Format.word
  rw [sign_d]
  cases s
  · simp only [if_false, Bool.false_eq_true]
    exact ⟨by rw [Nat.div_eq_of_lt h]; rfl, Nat.mod_eq_of_lt h⟩
  · simp only [if_true]
    have e : (2 ^ 63 + rung) / 2 ^ 63 = 1 := by omega
    refine ⟨by rw [e]; rfl, by omega⟩
theorem read_word (s : Bool) (q K rung : Nat) (hq : q ≤ 52) (hK1 : 4503599627370496 ≤ K) (hK2 : K < 9007199254740992) (hr : rung = (1074 - q) * 4503599627370496 + K) :
    Ieee.double.read (Ieee.double.word s rung) = .number s K (-(q : Int)) := by
  have hlt : rung < 9223372036854775808 := by omega
  obtain ⟨h1, h2⟩ := word_read s rung hlt
  have hr1 : rung / 4503599627370496 = 1075 - q := by omega
  have hr2 : rung % 4503599627370496 = K - 4503599627370496 := by omega
  have hb1 : ¬ rung < 4503599627370496 := by omega
  have hb2 : rung < 9218868437227405312 := by omega
  have e2 : (-1074 + ((1075 - q - 1 : Nat) : Int)) = -(q : Int) := by omega
  have e3 : 4503599627370496 + (K - 4503599627370496) = K := by omega
  clear hlt hr hK1 hK2
  unfold Ieee.Format.read
  rw [sign_d, show (2 : Nat) ^ 63 = 9223372036854775808 from rfl] 
  rw [show (2 : Nat) ^ 63 = 9223372036854775808 from rfl] at h1 h2
  rw [h1, h2]
  dsimp only
  rw [bin_d, inf_d, least_d, show (2 : Nat) ^ 52 = 4503599627370496 from rfl, show 2047 * 4503599627370496 = 9218868437227405312 from rfl]
  rw [if_neg hb1, if_pos hb2, hr1, hr2, e2, e3]
/-- what is written of a whole number below 2^53 stands for it -/
theorem DInt.written {d : Ieee.Datum} {n : Int} (h : DInt d n) (hn : n.natAbs < 2 ^ 53) : DInt (Ieee.double.read (Ieee.double.write d)) n := by
  obtain ⟨s, m, e, rfl, h⟩ := h
  show DInt (Ieee.double.read (Ieee.double.nearest s m e)) n
  unfold Ieee.Format.nearest
  by_cases hm : m = 0
  · subst hm
    rw [if_pos rfl]
    have hn0 : n = 0 := by
      have h1 : n * 2 ^ (-e).toNat = 0 := by rw [← h]; simp
      exact (Int.mul_eq_zero.1 h1).resolve_right (two_ne _)
    subst hn0
    obtain ⟨h1, h2⟩ := word_read s 0 (by decide)
    unfold Ieee.Format.read
    rw [sign_d, h1, h2]
    dsimp only
    rw [if_pos (by rw [bin_d]; decide)]
    exact ⟨_, _, _, rfl, by simp⟩
  · rw [if_neg hm]
    dsimp only
    -- the whole number's magnitude
    obtain ⟨N, hN⟩ : ∃ N, N = n.natAbs := ⟨_, rfl⟩
    rw [← hN] at hn
    have hsn : n = sg s * (N : Int) ∧ m * 2 ^ e.toNat = N * 2 ^ (-e).toNat := by
      have p1 := two_pos e.toNat
      have p2 := two_pos (-e).toNat
      have q1 : ((m * 2 ^ e.toNat : Nat) : Int) = (m : Int) * 2 ^ e.toNat := by simp
      have q2 : ((N * 2 ^ (-e).toNat : Nat) : Int) = (N : Int) * 2 ^ (-e).toNat := by simp
      have hmp : 0 < (m : Int) * 2 ^ e.toNat := Int.mul_pos (by omega) p1
      cases s
      · simp only [sg, Bool.false_eq_true, if_false, Int.one_mul] at h ⊢
        have hnp : 0 < n := by
          rcases Int.lt_or_le 0 n with hh | hh
          · exact hh
          · have := Int.mul_nonpos_of_nonpos_of_nonneg hh (Int.le_of_lt p2)
            omega
        have e1 : n = (N : Int) := by omega
        refine ⟨e1, ?_⟩
        rw [e1] at h
        omega
      · simp only [sg, if_true] at h ⊢
        have hnp : n < 0 := by
          rcases Int.lt_or_le n 0 with hh | hh
          · exact hh
          · have := Int.mul_nonneg hh (Int.le_of_lt p2)
            omega
        have e1 : n = -1 * (N : Int) := by omega
        refine ⟨e1, ?_⟩
        rw [e1] at h
        have h' : (m : Int) * 2 ^ e.toNat = (N : Int) * 2 ^ (-e).toNat := by
          have h2 : -1 * ((m : Int) * 2 ^ e.toNat) = -1 * ((N : Int) * 2 ^ (-e).toNat) := by rw [h, Int.mul_assoc]
          omega
        omega
    obtain ⟨hns, hmN⟩ := hsn
    have hm0 : 0 < m := by omega
    have hN0 : 0 < N := by
      rcases Nat.eq_zero_or_pos N with hz | hz
      · subst hz
        rw [Nat.zero_mul] at hmN
        have := Nat.mul_pos hm0 (Nat.two_pow_pos e.toNat)
        omega
      · exact hz
    have hlog : m.log2 + e.toNat = N.log2 + (-e).toNat := by rw [← log2_shift _ _ hm0, ← log2_shift _ _ hN0, hmN]
    obtain ⟨L, hL⟩ : ∃ L, L = N.log2 := ⟨_, rfl⟩
    have hL1 : 2 ^ L ≤ N := by rw [hL]; exact Nat.log2_self_le (by omega)
    have hL2 : N < 2 ^ (L + 1) := by rw [hL]; exact Nat.lt_log2_self
    have hL3 : L ≤ 52 := by
      have : L < 53 := by rw [hL]; exact (Nat.log2_lt (by omega)).2 hn
      omega
    rw [← hL] at hlog
    obtain ⟨q, hq⟩ : ∃ q, q = 52 - L := ⟨_, rfl⟩
    have hlast : max (e + (m.log2 : Int) - (Ieee.double.fractionBits : Int)) Ieee.double.leastPlace = -(q : Int) := by
      rw [frac_d, least_d]
      have : e + (m.log2 : Int) - ((52 : Nat) : Int) = -(q : Int) := by omega
      rw [this]
      omega
    rw [hlast]
    have hK : Ieee.Toward.even.cut s (m <<< (e - -(q : Int)).toNat) (-(q : Int) - e).toNat = N * 2 ^ q := by
      rw [Nat.shiftLeft_eq]
      rcases Int.lt_or_le (e + q) 0 with hlt | hge
      · have e1 : (e - -(q : Int)).toNat = 0 := by omega
        have e2 : e.toNat = 0 := by omega
        rw [e2, Nat.pow_zero, Nat.mul_one] at hmN
        have e3 : (-e).toNat = q + (-(q : Int) - e).toNat := by omega
        rw [e1, Nat.pow_zero, Nat.mul_one, hmN, e3, Nat.pow_add, ← Nat.mul_assoc]
        exact cut_exact _ _ _ _ (Nat.mul_pos hN0 (Nat.two_pow_pos _))
      · have e1 : (-(q : Int) - e).toNat = 0 := by omega
        have hpos : 0 < m * 2 ^ (e - -(q : Int)).toNat := Nat.mul_pos hm0 (Nat.two_pow_pos _)
        have hc := cut_exact .even s (m * 2 ^ (e - -(q : Int)).toNat) 0 hpos
        rw [Nat.pow_zero, Nat.mul_one] at hc
        rw [e1, hc]
        rcases Int.lt_or_le e 0 with he | he
        · have e2 : e.toNat = 0 := by omega
          rw [e2, Nat.pow_zero, Nat.mul_one] at hmN
          rw [hmN, Nat.mul_assoc, ← Nat.pow_add]
          congr 2
          omega
        · have e2 : (-e).toNat = 0 := by omega
          rw [e2, Nat.pow_zero, Nat.mul_one] at hmN
          rw [← hmN, Nat.mul_assoc, ← Nat.pow_add]
          congr 2
          omega
    rw [hK]
    obtain ⟨K, hKK⟩ : ∃ K, K = N * 2 ^ q := ⟨_, rfl⟩
    rw [← hKK]
    have hK1 : 4503599627370496 ≤ K := by
      rw [show 4503599627370496 = 2 ^ 52 from rfl, hKK, show (52 : Nat) = L + q by omega, Nat.pow_add]
      exact Nat.mul_le_mul_right _ hL1
    have hK2 : K < 9007199254740992 := by
      rw [show 9007199254740992 = 2 ^ 53 from rfl, hKK, show (53 : Nat) = (L + 1) + q by omega, Nat.pow_add (m := L + 1)]
      exact Nat.mul_lt_mul_of_pos_right hL2 (Nat.two_pow_pos _)
    rw [least_d, bin_d, inf_d]
    have e1 : (-(q : Int) - -1074).toNat = 1074 - q := by omega
    rw [e1]
    have hmin : min ((1074 - q) * 2 ^ 52 + K) (2047 * 2 ^ 52) = (1074 - q) * 4503599627370496 + K := by
      rw [show (2 : Nat) ^ 52 = 4503599627370496 from rfl]
      exact Nat.min_eq_left (by omega)
    rw [hmin, read_word s q K _ (hq ▸ Nat.sub_le 52 L) hK1 hK2 rfl]
    refine ⟨_, _, _, rfl, ?_⟩
    have e4 : (-(q : Int)).toNat = 0 := Int.toNat_neg_natCast q
    have e5 : (- -(q : Int)).toNat = q := by rw [Int.neg_neg]; rfl
    rw [e4, e5, hns, hKK]
    simp [Int.mul_assoc]
/-- a word that stands for a whole number -/
def FInt (b : Nat) (n : Int) : Prop := DInt (Ieee.double.read b) n
theorem FInt.add {a b : Nat} {x y : Int} (ha : FInt a x) (hb : FInt b y) (h : (x + y).natAbs < 2 ^ 53) : ∃ r, floatBits .add .f64 a b = some r ∧ FInt r (x + y) := by
  obtain ⟨d, hd, hx⟩ := DInt.sum ha hb
  refine ⟨Ieee.double.write d, ?_, hx.written h⟩
  show (((Ieee.double.read a).sum (Ieee.double.read b)).map Ieee.double.write) = _
  rw [hd]; rfl
theorem FInt.sub {a b : Nat} {x y : Int} (ha : FInt a x) (hb : FInt b y) (h : (x - y).natAbs < 2 ^ 53) : ∃ r, floatBits .sub .f64 a b = some r ∧ FInt r (x - y) := by
  obtain ⟨d, hd, hx⟩ := DInt.sum ha (DInt.opposite hb)
  rw [← Int.sub_eq_add_neg] at hx
  refine ⟨Ieee.double.write d, ?_, hx.written h⟩
  show (((Ieee.double.read a).sum (Ieee.double.read b).opposite).map Ieee.double.write) = _
  rw [hd]; rfl
theorem FInt.mul {a b : Nat} {x y : Int} (ha : FInt a x) (hb : FInt b y) (h : (x * y).natAbs < 2 ^ 53) : ∃ r, floatBits .mul .f64 a b = some r ∧ FInt r (x * y) := by
  obtain ⟨d, hd, hx⟩ := DInt.product ha hb
  refine ⟨Ieee.double.write d, ?_, hx.written h⟩
  show (((Ieee.double.read a).product (Ieee.double.read b)).map Ieee.double.write) = _
  rw [hd]; rfl
theorem FInt.ofInt (n : Int) (h : n.natAbs < 2 ^ 53) : FInt (FloatKind.f64.nearest n) n := by
  refine DInt.written (d := .number (n < 0) n.natAbs 0) ⟨_, _, _, rfl, ?_⟩ h
  unfold sg
  by_cases hn : n < 0 <;> simp [hn] <;> omega
theorem FInt.neg {a : Nat} {x : Int} (ha : FInt a x) : FInt (Op.negFloat .f64 a) (-x) := by
  have e : Ieee.double.read (Op.negFloat .f64 a) = (Ieee.double.read a).opposite := by
    have e0 : Op.negFloat .f64 a = a ^^^ 2 ^ 63 := rfl
    rw [e0]
    have h1 : (a ^^^ 2 ^ 63) % 2 ^ 63 = a % 2 ^ 63 := by rw [Nat.xor_mod_two_pow, Nat.mod_self, Nat.xor_zero]
    have h2 : ((a ^^^ 2 ^ 63) / 2 ^ 63 % 2 == 1) = !(a / 2 ^ 63 % 2 == 1) := by
      have t1 := Nat.testBit_eq_decide_div_mod_eq (i := 63) (x := a ^^^ 2 ^ 63)
      have t2 := Nat.testBit_eq_decide_div_mod_eq (i := 63) (x := a)
      rw [Nat.testBit_xor, Nat.testBit_two_pow_self] at t1
      have u1 : ((a ^^^ 2 ^ 63) / 2 ^ 63 % 2 == 1) = decide ((a ^^^ 2 ^ 63) / 2 ^ 63 % 2 = 1) := by rw [Bool.eq_iff_iff]; simp
      have u2 : (a / 2 ^ 63 % 2 == 1) = decide (a / 2 ^ 63 % 2 = 1) := by rw [Bool.eq_iff_iff]; simp
      rw [u1, u2, ← t1, ← t2]
      cases a.testBit 63 <;> rfl
    unfold Ieee.Format.read
    rw [sign_d, h1, h2]
    dsimp only
    split
    · rfl
    · split
      · rfl
      · split
        · rfl
        · rfl
  unfold FInt
  rw [e]
  exact DInt.opposite ha
theorem FInt.toInt {a : Nat} {x : Int} (ha : FInt a x) : (FloatKind.f64.decode a).toInt .zero = some x := by
  obtain ⟨s, m, e, hd, h⟩ := ha
  have e0 : FloatKind.f64.decode a = .number s m e := hd
  rw [e0]
  show some (Ieee.signed s (Ieee.Toward.zero.cut s (m <<< e.toNat) (-e).toNat) 0) = some x
  congr 1
  rw [signed_eq, Nat.shiftLeft_eq, Int.pow_zero, Int.mul_one]
  by_cases hm : m = 0
  · subst hm
    have hn0 : x = 0 := by
      have h1 : x * 2 ^ (-e).toNat = 0 := by rw [← h]; simp
      exact (Int.mul_eq_zero.1 h1).resolve_right (two_ne _)
    subst hn0
    have : Ieee.Toward.zero.cut s (0 * 2 ^ e.toNat) (-e).toNat = 0 := by unfold Ieee.Toward.cut; simp
    rw [this]; simp
  · rcases Int.lt_or_le e 0 with he | he
    · have e2 : e.toNat = 0 := by omega
      rw [e2, Int.pow_zero, Int.mul_one] at h
      have hx : m = x.natAbs * 2 ^ (-e).toNat := by
        have h2 := congrArg Int.natAbs h
        rw [Int.natAbs_mul, Int.natAbs_mul, Int.natAbs_pow] at h2
        have h3 : (sg s).natAbs = 1 := by cases s <;> rfl
        rw [h3] at h2
        simpa using h2
      have hx0 : 0 < x.natAbs := by
        rcases Nat.eq_zero_or_pos x.natAbs with hz | hz
        · rw [hz, Nat.zero_mul] at hx; exact absurd hx hm
        · exact hz
      rw [e2, Nat.pow_zero, Nat.mul_one, hx, cut_exact _ _ _ _ hx0]
      rw [hx] at h
      refine Int.eq_of_mul_eq_mul_right (two_ne (-e).toNat) ?_
      rw [← h]
      simp [Int.mul_assoc]
    · have e2 : (-e).toNat = 0 := by omega
      have hc := cut_exact .zero s (m * 2 ^ e.toNat) 0 (Nat.mul_pos (by omega) (Nat.two_pow_pos _))
      rw [Nat.pow_zero, Nat.mul_one] at hc
      rw [e2, hc]
      rw [e2, Int.pow_zero, Int.mul_one] at h
      rw [← h]
      simp
theorem compare_scaled {A B x y : Int} {p r : Int} (hp : 0 < p) (hr : 0 < r) (h1 : A * p = x * r) (h2 : B * p = y * r) : compare A B = compare x y := by
  rcases Int.lt_trichotomy x y with h | h | h
  · have : A < B := Int.lt_of_mul_lt_mul_right (a := p) (by rw [h1, h2]; exact Int.mul_lt_mul_of_pos_right h hr) (Int.le_of_lt hp)
    rw [Int.compare_eq_lt.2 this, Int.compare_eq_lt.2 h]
  · subst h
    have : A = B := Int.eq_of_mul_eq_mul_right (Int.ne_of_gt hp) (by rw [h1, h2])
    rw [Int.compare_eq_eq.2 this, Int.compare_eq_eq.2 rfl]
  · have : B < A := Int.lt_of_mul_lt_mul_right (a := p) (by rw [h1, h2]; exact Int.mul_lt_mul_of_pos_right h hr) (Int.le_of_lt hp)
    rw [Int.compare_eq_gt.2 this, Int.compare_eq_gt.2 h]
theorem FInt.order {a b : Nat} {x y : Int} (ha : FInt a x) (hb : FInt b y) : FloatKind.f64.format.order a b = some (compare x y) := by
  obtain ⟨s, m, i, hd, h1⟩ := ha
  obtain ⟨t, n, j, he, h2⟩ := hb
  show (Ieee.double.read a).order (Ieee.double.read b) = _
  rw [hd, he]
  show some (compare (Ieee.signed s m (i - min i j).toNat) (Ieee.signed t n (j - min i j).toNat)) = _
  congr 1
  have k1 := shift_to (Int.min_le_left i j) (by rw [← h1, Int.mul_assoc])
  have k2 := shift_to (Int.min_le_right i j) (by rw [← h2, Int.mul_assoc])
  rw [signed_eq, signed_eq]
  refine compare_scaled (two_pos (min i j).toNat) (two_pos (-(min i j)).toNat) ?_ ?_
  · rw [← k1]; simp only [Int.mul_assoc]
  · rw [← k2]; simp only [Int.mul_assoc]
end Go.Proofs.Ytdjbalaicfienaa
