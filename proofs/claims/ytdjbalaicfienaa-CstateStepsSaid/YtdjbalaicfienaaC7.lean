/- The walk of layer 4's begun. -/
import Derived.Test.YtdjbalaicfienaaC6
import Derived.Test.YtdjbalaicfienaaW11
import Derived.Test.YtdjbalaicfienaaW16
namespace Go.Proofs.Ytdjbalaicfienaa
open Go.RowKit
set_option linter.unusedVariables false
set_option linter.unusedSimpArgs false

theorem rsame_yes4 (x y : RB) (bs : List Bool) (w : World) (hx : x.Is w bs) (hy : y.Is w bs) :
    Calls Try.prog 21 #[x.val, y.val] w fun e w' => e = .returned (.bool true) ∧ Keeps w w' := by
  have h := same_is x y bs bs w hx hy
  rw [decide_eq_true (rfl : bs = bs)] at h
  exact h
theorem begun4_bits : cbitsRes ⟨1, 2, 1, 0, 5⟩ = (parseBits ⟨#[48, 48, 48, 48, 48, 48, 48, 49, 48, 49, 48, 48, 49, 48, 48, 48, 48, 48, 48, 48, 48, 49, 48, 49]⟩, 0) := by decide +kernel
theorem begun4_parse : parseErr ⟨#[48, 48, 48, 48, 48, 48, 48, 49, 48, 49, 48, 48, 49, 48, 48, 48, 48, 48, 48, 48, 48, 49, 48, 49]⟩ = 0 ∧ parseBits ⟨#[48, 48, 48, 48, 48, 48, 48, 49, 48, 49, 48, 48, 49, 48, 48, 48, 48, 48, 48, 48, 48, 49, 48, 49]⟩ = parseBits ⟨#[48, 48, 48, 48, 48, 48, 48, 49, 48, 49, 48, 48, 49, 48, 48, 48, 48, 48, 48, 48, 48, 49, 48, 49]⟩ := by decide +kernel

set_option maxHeartbeats 2000000 in
set_option maxRecDepth 100000 in
theorem begun4_any (w : World) :
    Calls Try.prog 18 #[] w fun e w' => e = .returned (.bool true) ∧ Keeps w w' := by
  go_enter Try.func18, Try.ntmps18
  go_wp2_with fail
  with_reducible refine (cbits_any ⟨1, 2, 1, 0, 5⟩ _).mono ?_
  rw [begun4_bits]
  rintro e w1 ⟨y, rfl, hy, -, hk1⟩
  have HY1 := Lib.hid hy
  have HK1 := Lib.hid hk1
  clear hy hk1
  obtain ⟨n1, a1, len1, cap1, l1⟩ := y
  go_wp2_with fail
  refine (rparse_any ⟨#[48, 48, 48, 48, 48, 48, 48, 49, 48, 49, 48, 48, 49, 48, 48, 48, 48, 48, 48, 48, 48, 49, 48, 49]⟩ _ (by decide)).mono ?_
  rw [begun4_parse.1, begun4_parse.2]
  rintro e w2 ⟨y, rfl, hy, -, hk2⟩
  obtain ⟨n2, a2, len2, cap2, l2⟩ := y
  have HY2 := Lib.hid hy
  have hc := (Box.new w1 26 #[.int .i64 n1, .slice a1 len1 cap1]).keeps hk2
  have hk3 := HK1.out.trans (((Keeps.refl w1).alloc (.cells #[.int .i64 n1, .slice a1 len1 cap1] 26)).trans hk2)
  replace HY1 := Lib.hid (HY1.out.keeps (((Keeps.refl w1).alloc (.cells #[.int .i64 n1, .slice a1 len1 cap1] 26)).trans hk2))
  have HK := Lib.hid hk3
  have c0 := hc.cell 0 _ rfl
  have c1 := hc.cell 1 _ rfl
  have cl := hc.lt
  clear hy hk2 hk3 hc
  go_wp2_with fail
  with_reducible refine (rsame_yes4 ⟨n1, a1, len1, cap1, l1⟩ ⟨n2, a2, len2, cap2, l2⟩ _ _ (by exact HY1.out.keeps ((Keeps.refl _).alloc _)) (by exact HY2.out.keeps ((Keeps.refl _).alloc _))).mono ?_
  rintro e w3 ⟨rfl, hk3⟩
  replace HK := Lib.hid ((HK.out.alloc _).trans hk3)
  clear hk3 c0 c1 cl
  go_wp2_with fail
  go_ret
  exact ⟨rfl, HK.out⟩
end Go.Proofs.Ytdjbalaicfienaa
