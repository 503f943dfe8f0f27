/- The walks of layer 3, 8: law 3's begun. -/
import Derived.Test.YtdjbalaicfienaaP8
import Derived.Test.YtdjbalaicfienaaW11
namespace Go.Proofs.Ytdjbalaicfienaa
open Go.RowKit
set_option linter.unusedVariables false
set_option linter.unusedSimpArgs false
theorem begun3_parse : parseErr ⟨#[48, 49]⟩ = 0 ∧ parseBits ⟨#[48, 49]⟩ = [false, true] := by decide +kernel
theorem begun3_len : (encS [false, true] 5).length = 15 := by decide +kernel
theorem begun3_at (h : 14 < (encS [false, true] 5).length) : (encS [false, true] 5)[14] = ⟨-5, 5⟩ := by decide +kernel +revert
theorem begun3_turn : turnRes (encS [false, true] 5) 1 = ((encS [false, true] 5).map fun s => turnS s 1, 0) := by decide +kernel
theorem begun3_tat (h : 14 < ((encS [false, true] 5).map fun s => turnS s 1).length) : ((encS [false, true] 5).map fun s => turnS s 1)[14] = ⟨-5, -5⟩ := by decide +kernel +revert
theorem encRes_is {x : RB} {w : World} {bs : List Bool} {amp : Int} (h : x.Is w bs) (h2 : 1 ≤ amp ∧ amp ≤ 65536) (h3 : bs.length ≤ 4095) : encRes x amp = (encS bs amp, 0) := by
  rw [encRes_yes x amp h.chk h2 (by rw [h.n]; omega), h.bits]
set_option maxRecDepth 100000 in
set_option maxHeartbeats 4000000 in
theorem begun3_any (w : World) : Calls Try.prog 39 #[] w fun e w' => e = .returned (.bool true) ∧ Keeps w w' := by
  go_enter Try.func39, Try.ntmps39
  go_wp2_with fail
  refine (rparse_any ⟨#[48, 49]⟩ _ (by decide)).mono ?_
  rw [begun3_parse.1, begun3_parse.2]
  rintro e w1 ⟨y, rfl, hy, -, hk1⟩
  obtain ⟨n, a, len, cap, l⟩ := y
  have HY := Lib.hid hy
  have HK := Lib.hid hk1
  clear hy hk1
  go_wp2_with fail
  with_reducible refine (encode_any ⟨n, a, len, cap, l⟩ 5 _ (by exact (HY.out.keeps ((Keeps.refl w1).alloc _)).isIn)).mono ?_
  rw [encRes_is HY.out (by decide) (by decide)]
  rintro e w2 ⟨v2, rfl, ho2, hk2⟩
  have HL := Lib.hid begun3_len
  obtain ⟨a2, c2, rfl, hr2, -⟩ := ho2.shape
  have HR2 := Lib.hid hr2
  replace HK := Lib.hid ((HK.out.alloc _).trans hk2)
  obtain ⟨L, hL⟩ : ∃ L, L = encS [false, true] 5 := ⟨_, rfl⟩
  have HAT := Lib.hid begun3_at
  have HTU := Lib.hid begun3_turn
  have HTA := Lib.hid begun3_tat
  simp only at hr2
  rw [← hL] at HL HR2 HAT HTU HTA hr2 ⊢
  rw [HL.out] at HR2 hr2 ⊢
  clear ho2 hk2 hL
  go_wp2_with fail
  with_reducible refine (turn_any a2 15 c2 L 1 _ (by exact HR2.out) (by decide) (by decide) (by decide)).mono ?_
  rw [HTU.out]
  rintro e w3 ⟨v3, rfl, ho3, hk3⟩
  obtain ⟨a3, c3, rfl, hr3, -⟩ := ho3.shape
  simp only at hr3
  have hl3 : (L.map fun s => turnS s 1).length = 15 := by rw [List.length_map, HL.out]
  have h14 : 14 < L.length := by rw [HL.out]; decide
  have h14' : 14 < (L.map fun s => turnS s 1).length := by rw [hl3]; decide
  have hcc2 := hr2.hcap
  have hcm2 := hr2.hmax
  have hcc3 := hr3.hcap
  have hcm3 := hr3.hmax
  obtain ⟨b2, o2, rfl, -, hcell2⟩ := (hr2.keeps hk3).addr (by decide)
  obtain ⟨d0, d1⟩ := hcell2 14 h14
  obtain ⟨b3, o3, rfl, -, hcell3⟩ := hr3.addr (by rw [hl3]; decide)
  obtain ⟨e0, e1⟩ := hcell3 14 h14'
  rw [HAT.out h14] at d0 d1
  rw [HTA.out h14'] at e0 e1
  rw [hl3] at hcc3 ⊢
  replace HK := Lib.hid (HK.out.trans hk3)
  clear hr2 hr3 hcell2 hcell3 ho3 hk3 HR2 h14 h14' hl3
  go_wp2_with fail
  go_ret
  exact ⟨rfl, HK.out⟩
end Go.Proofs.Ytdjbalaicfienaa
