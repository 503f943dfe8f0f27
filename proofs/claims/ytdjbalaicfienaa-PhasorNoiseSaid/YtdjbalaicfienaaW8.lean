/- The walks of package crc, 3: Sum. -/
import Derived.Test.YtdjbalaicfienaaW3
import Derived.Test.YtdjbalaicfienaaBase2
import Derived.Test.YtdjbalaicfienaaPlainBits2
namespace Go.Proofs.Ytdjbalaicfienaa
open Go.RowKit
set_option linter.unusedVariables false
set_option linter.unusedSimpArgs false

/-- a list of bits lies there -/
structure RBs (w : World) (a : Option Addr) (n cap : Nat) (xs : List RB) : Prop where
  len : xs.length = n
  hcap : n ≤ cap
  hmax : cap ≤ 9223372036854775807
  reach : n ≤ 100000000000000
  isIn : ∀ x ∈ xs, x.In w
  cell : ∀ i (h : i < xs.length), ∃ b off, a = some ⟨b, off, none⟩ ∧ w.cell? ⟨b, off + i * 2, none⟩ = some (.int .i64 (xs[i].n)) ∧ w.cell? ⟨b, off + i * 2 + 1, none⟩ = some (.slice xs[i].a xs[i].len xs[i].cap)
theorem RBs.keeps {w w' : World} {a : Option Addr} {n cap : Nat} {xs : List RB} (h : RBs w a n cap xs) (hk : Keeps w w') : RBs w' a n cap xs :=
  ⟨h.len, h.hcap, h.hmax, h.reach, fun x hx => (h.isIn x hx).keeps hk, fun i hi => by
    obtain ⟨b, off, h1, h2, h3⟩ := h.cell i hi
    exact ⟨b, off, h1, hk.later h2, hk.later h3⟩⟩
theorem RBs.addr {w : World} {a : Option Addr} {n cap : Nat} {xs : List RB} (h : RBs w a n cap xs) (h0 : 0 < xs.length) : ∃ b off, a = some ⟨b, off, none⟩ ∧
    ∀ i (hi : i < xs.length), w.cell? ⟨b, off + i * 2, none⟩ = some (.int .i64 (xs[i].n)) ∧ w.cell? ⟨b, off + i * 2 + 1, none⟩ = some (.slice xs[i].a xs[i].len xs[i].cap) := by
  obtain ⟨b, off, hab, -, -⟩ := h.cell 0 h0
  refine ⟨b, off, hab, fun i hi => ?_⟩
  obtain ⟨b', off', hab', h1, h2⟩ := h.cell i hi
  rw [hab] at hab'
  simp only [Option.some.injEq, Addr.mk.injEq] at hab'
  obtain ⟨rfl, rfl, _⟩ := hab'
  exact ⟨h1, h2⟩

/-- the bits of a value that may be -/
def RB.bits (x : RB) : List Bool := unpack x.n.toNat x.l
theorem unpack_pack (bs : List Bool) : unpack bs.length (pack bs) = bs := by
  apply ext_getD (unpack_len _ _)
  intro i hi
  rw [unpack_len] at hi
  rw [unpack_getD, if_pos hi, bitAt_pack]
theorem RB.Is.bits {x : RB} {w : World} {bs : List Bool} (h : x.Is w bs) : x.bits = bs := by
  unfold RB.bits
  rw [h.n, h.l, Int.toNat_natCast, unpack_pack]
end Go.Proofs.Ytdjbalaicfienaa
