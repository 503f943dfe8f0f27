/- Plain facts on the sum, 2. -/
import Derived.Test.YtmjodcackmjllaaPlainCrc
namespace Go.Proofs.Ytmjodcackmjllaa
/-- the remainder behind k bits -/
def crcTo (r : Nat) (bs : List Bool) (k : Nat) : Nat := crcOver r (bs.take k)
theorem crcTo_zero (r : Nat) (bs : List Bool) : crcTo r bs 0 = r := rfl
theorem crcTo_all (r : Nat) (bs : List Bool) : crcTo r bs bs.length = crcOver r bs := by simp [crcTo]
theorem crcTo_lt (r : Nat) (bs : List Bool) (k : Nat) (h : r < 16777216) : crcTo r bs k < 16777216 := crcOver_lt _ _ h
theorem crcTo_step (r : Nat) (bs : List Bool) (k : Nat) (h : k < bs.length) : crcTo r bs (k + 1) = crcStep (crcTo r bs k) (bs.getD k false) := by
  unfold crcTo
  rw [take_snoc bs k false h, crcOver_snoc]
theorem getTo_one (bs : List Bool) (k : Nat) (h : k < bs.length) : getTo bs k 1 = (bs.getD k false).toNat := by
  have := getTo_succ bs k 0 (by omega)
  rw [getTo_zero] at this
  simpa using this
theorem crcTo_one (r : Nat) (bs : List Bool) (k : Nat) (h : k < bs.length) (hr : r < 16777216) : crcTo r bs (k + 1) = crcStep (crcTo r bs k ^^^ (getTo bs k 1 * 8388608)) false := by
  rw [crcTo_step _ _ _ h, getTo_one _ _ h, crcStep_top _ _ (crcTo_lt _ _ _ hr)]
theorem getTo_four (bs : List Bool) (k : Nat) (h : k + 4 ≤ bs.length) : getTo bs k 4 = valOf [bs.getD k false, bs.getD (k + 1) false, bs.getD (k + 2) false, bs.getD (k + 3) false] := by
  rw [getTo_succ bs k 3 (by omega), getTo_succ bs k 2 (by omega), getTo_succ bs k 1 (by omega), getTo_succ bs k 0 (by omega), getTo_zero]
  simp [valOf]
theorem crcTo_four (r : Nat) (bs : List Bool) (k : Nat) (h : k + 4 ≤ bs.length) (hr : r < 16777216) :
    crcTo r bs (k + 4) = (crcTo r bs k * 16 % 16777216) ^^^ tabAt ((crcTo r bs k / 1048576) ^^^ getTo bs k 4) := by
  rw [getTo_four _ _ h, ← crc_four _ (crcTo_lt _ _ _ hr)]
  rw [crcTo_step r bs (k + 3) (by omega), crcTo_step r bs (k + 2) (by omega), crcTo_step r bs (k + 1) (by omega), crcTo_step r bs k (by omega)]
  rfl
end Go.Proofs.Ytmjodcackmjllaa
