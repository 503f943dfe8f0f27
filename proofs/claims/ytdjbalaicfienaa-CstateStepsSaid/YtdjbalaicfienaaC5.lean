/- The walks of layer 4, 3: Parse. -/
import Derived.Test.YtdjbalaicfienaaC4
import Derived.Test.YtdjbalaicfienaaW14
namespace Go.Proofs.Ytdjbalaicfienaa
open Go.RowKit
set_option linter.unusedVariables false
set_option linter.unusedSimpArgs false

/-- the state of bits -/
def csOf (bs : List Bool) : CS := ⟨(getTo bs 0 8 : Nat), (getTo bs 8 3 : Nat), (getTo bs 11 2 : Nat), (getTo bs 13 3 : Nat), (getTo bs 16 8 : Nat)⟩
def cparseIs (bs : List Bool) : CS × Int := if bs.length = 24 then (if csOk (csOf bs) 8 then (csOf bs, 0) else (CS.zero, 40)) else (CS.zero, 40)
def cparseRes (x : RB) : CS × Int := if chk x.n x.l then cparseIs x.bits else (CS.zero, 10)
theorem cparse_ok {bs : List Bool} (h1 : bs.length = 24) (h2 : csOk (csOf bs) 8 = true) : cparseIs bs = (csOf bs, 0) := by unfold cparseIs; rw [if_pos h1, if_pos h2]
theorem cparse_may {bs : List Bool} (h1 : bs.length = 24) (h2 : csOk (csOf bs) 8 = false) : cparseIs bs = (CS.zero, 40) := by unfold cparseIs; rw [if_pos h1, if_neg (by rw [h2]; decide)]
theorem cparse_long {bs : List Bool} (h1 : ¬ bs.length = 24) : cparseIs bs = (CS.zero, 40) := by unfold cparseIs; rw [if_neg h1]

set_option maxHeartbeats 1000000 in
set_option maxRecDepth 100000 in
theorem cparse_bad (x : RB) (w : World) (hx : x.In w) (hc : chk x.n x.l = false) :
    Calls Try.prog 16 #[x.val] w fun e w' => e = .returned (.tuple #[CS.zero.val, .int .i64 10]) ∧ Keeps w w' := by
  have HX := Lib.hid hx
  have HC := Lib.hid hc
  clear hx hc
  obtain ⟨n, a, len, cap, l⟩ := x
  show Calls Try.prog 16 #[.agg #[.int .i64 n, .slice a len cap]] w _
  go_enter Try.func16, Try.ntmps16
  go_wp2_with fail
  with_reducible refine (check_no ⟨n, a, len, cap, l⟩ _ (by exact HX.out.keeps (((Keeps.refl w).alloc _).alloc _)) HC.out).mono ?_
  rintro e w1 ⟨rfl, hk1⟩
  have hb := (Box.new (w.alloc (.cells #[.int .i64 n, .slice a len cap] 26)) 23 #[.int .i64 0, .int .i64 0, .int .i64 0, .int .i64 0, .int .i64 0]).keeps hk1
  rw [World.size_alloc] at hb
  have z0 := hb.cell 0 _ rfl
  have z1 := hb.cell 1 _ rfl
  have z2 := hb.cell 2 _ rfl
  have z3 := hb.cell 3 _ rfl
  have z4 := hb.cell 4 _ rfl
  have zf := hb.frozen
  have HK := Lib.hid (((Keeps.refl w).alloc _).alloc _ |>.trans hk1)
  clear hk1 hb
  go_wp2_with fail
  refine bodyPost_ret (by simp [results, Try.results16, go_sem, CS.zero, *]) rfl ⟨rfl, ((((HK.out.setCell (by simp) _).setCell (by simp) _).setCell (by simp) _).setCell (by simp) _).setCell (by simp) _⟩

set_option maxHeartbeats 1000000 in
set_option maxRecDepth 100000 in
theorem cparse_long' (x : RB) (bs : List Bool) (w : World) (hx : x.Is w bs) (hl : ¬ bs.length = 24) :
    Calls Try.prog 16 #[x.val] w fun e w' => e = .returned (.tuple #[CS.zero.val, .int .i64 40]) ∧ Keeps w w' := by
  have HC := Lib.hid hx.chk
  have HX := Lib.hid hx
  have hmost := hx.most
  obtain ⟨a, cap, rfl⟩ := hx.shape
  clear hx
  have hd : ((bs.length : Int) != 24) = true := by rw [bne_iff_ne]; omega
  clear hl
  show Calls Try.prog 16 #[.agg #[.int .i64 bs.length, .slice a ((bs.length + 7) / 8) cap]] w _
  go_enter Try.func16, Try.ntmps16
  go_wp2_with fail
  with_reducible refine (check_yes ⟨bs.length, a, (bs.length + 7) / 8, cap, pack bs⟩ _ (by exact HX.out.isIn.keeps (((Keeps.refl w).alloc _).alloc _)) HC.out).mono ?_
  rintro e w1 ⟨rfl, hk1⟩
  have hb := (Box.new (w.alloc (.cells #[.int .i64 bs.length, .slice a ((bs.length + 7) / 8) cap] 26)) 23 #[.int .i64 0, .int .i64 0, .int .i64 0, .int .i64 0, .int .i64 0]).keeps hk1
  have ha := ((Box.new w 26 #[.int .i64 bs.length, .slice a ((bs.length + 7) / 8) cap]).next (.cells #[.int .i64 0, .int .i64 0, .int .i64 0, .int .i64 0, .int .i64 0] 23)).keeps hk1
  rw [World.size_alloc] at hb
  have a0 := ha.cell 0 _ rfl
  have z0 := hb.cell 0 _ rfl
  have z1 := hb.cell 1 _ rfl
  have z2 := hb.cell 2 _ rfl
  have z3 := hb.cell 3 _ rfl
  have z4 := hb.cell 4 _ rfl
  have zf := hb.frozen
  have HK := Lib.hid (((Keeps.refl w).alloc _).alloc _ |>.trans hk1)
  clear hk1 hb ha
  go_wp2_with fail
  refine bodyPost_ret (by simp [results, Try.results16, go_sem, CS.zero, *]) rfl ⟨rfl, ((((HK.out.setCell (by simp) _).setCell (by simp) _).setCell (by simp) _).setCell (by simp) _).setCell (by simp) _⟩

set_option maxHeartbeats 4000000 in
set_option maxRecDepth 100000 in
theorem cparse_at (x : RB) (bs : List Bool) (w : World) (hx : x.Is w bs) (hl : bs.length = 24) (r : Bool) (hr : csOk (csOf bs) 8 = r) :
    Calls Try.prog 16 #[x.val] w fun e w' => e = .returned (cond r (.tuple #[(csOf bs).val, .int .i64 0]) (.tuple #[CS.zero.val, .int .i64 40])) ∧ Keeps w w' := by
  have HC := Lib.hid hx.chk
  have HX := Lib.hid hx
  obtain ⟨a, cap, rfl⟩ := hx.shape
  clear hx
  have hd : ((bs.length : Int) != 24) = false := by rw [bne_eq_false_iff_eq]; omega
  obtain ⟨v0, h0⟩ : ∃ v, v = getTo bs 0 8 := ⟨_, rfl⟩
  obtain ⟨v1, h1⟩ : ∃ v, v = getTo bs 8 3 := ⟨_, rfl⟩
  obtain ⟨v2, h2⟩ : ∃ v, v = getTo bs 11 2 := ⟨_, rfl⟩
  obtain ⟨v3, h3⟩ : ∃ v, v = getTo bs 13 3 := ⟨_, rfl⟩
  obtain ⟨v4, h4⟩ : ∃ v, v = getTo bs 16 8 := ⟨_, rfl⟩
  have g0 : v0 < 256 := by rw [h0]; exact getTo_lt bs 0 8
  have g1 : v1 < 8 := by rw [h1]; exact getTo_lt bs 8 3
  have g2 : v2 < 4 := by rw [h2]; exact getTo_lt bs 11 2
  have g3 : v3 < 8 := by rw [h3]; exact getTo_lt bs 13 3
  have g4 : v4 < 256 := by rw [h4]; exact getTo_lt bs 16 8
  have hcs : csOf bs = ⟨v0, v1, v2, v3, v4⟩ := by unfold csOf; rw [h0, h1, h2, h3, h4]
  rw [hcs] at hr ⊢
  have HR := Lib.hid hr
  have H0 := Lib.hid h0
  have H1 := Lib.hid h1
  have H2 := Lib.hid h2
  have H3 := Lib.hid h3
  have H4 := Lib.hid h4
  have HL := Lib.hid hl
  clear h0 h1 h2 h3 h4 hcs hr hl
  show Calls Try.prog 16 #[.agg #[.int .i64 bs.length, .slice a ((bs.length + 7) / 8) cap]] w _
  go_enter Try.func16, Try.ntmps16
  go_wp2_with fail
  with_reducible refine (check_yes ⟨bs.length, a, (bs.length + 7) / 8, cap, pack bs⟩ _ (by exact HX.out.isIn.keeps (((Keeps.refl w).alloc _).alloc _)) HC.out).mono ?_
  rintro e w1 ⟨rfl, hk1⟩
  have hz := (Box.new (w.alloc (.cells #[.int .i64 bs.length, .slice a ((bs.length + 7) / 8) cap] 26)) 23 #[.int .i64 0, .int .i64 0, .int .i64 0, .int .i64 0, .int .i64 0]).keeps hk1
  have ha := ((Box.new w 26 #[.int .i64 bs.length, .slice a ((bs.length + 7) / 8) cap]).next (.cells #[.int .i64 0, .int .i64 0, .int .i64 0, .int .i64 0, .int .i64 0] 23)).keeps hk1
  rw [World.size_alloc] at hz
  have HZ := Lib.hid hz
  have HA := Lib.hid ha
  have HK := Lib.hid (((Keeps.refl w).alloc _).alloc _ |>.trans hk1)
  have a0 := ha.cell 0 _ rfl
  have hz1 := hz.lt
  clear hk1 hz ha
  go_wp2_with fail
  with_reducible refine (widths_any _).mono ?_
  rintro e w2 ⟨rfl, hk2⟩
  have HB := Lib.hid ((Box.new w1 83 #[.int .i64 0, .int .i64 0, .int .i64 0, .int .i64 0, .int .i64 0]).keeps hk2)
  replace HZ := Lib.hid ((HZ.out.next _).keeps hk2)
  replace HA := Lib.hid ((HA.out.next _).keeps hk2)
  replace HK := Lib.hid ((HK.out.alloc _).trans hk2)
  have hb1 := HB.out.lt
  clear hk2 a0 hd
  have i0 : ∀ w, (Instr.index 83 (.agg #[.int .i64 8, .int .i64 3, .int .i64 2, .int .i64 3, .int .i64 8]) (.int .i64 0)).run Try.prog w = .ok (.int .i64 8) w := fun _ => by kernel_rfl
  have i1 : ∀ w, (Instr.index 83 (.agg #[.int .i64 8, .int .i64 3, .int .i64 2, .int .i64 3, .int .i64 8]) (.int .i64 1)).run Try.prog w = .ok (.int .i64 3) w := fun _ => by kernel_rfl
  have i2 : ∀ w, (Instr.index 83 (.agg #[.int .i64 8, .int .i64 3, .int .i64 2, .int .i64 3, .int .i64 8]) (.int .i64 2)).run Try.prog w = .ok (.int .i64 2) w := fun _ => by kernel_rfl
  have i3 : ∀ w, (Instr.index 83 (.agg #[.int .i64 8, .int .i64 3, .int .i64 2, .int .i64 3, .int .i64 8]) (.int .i64 3)).run Try.prog w = .ok (.int .i64 3) w := fun _ => by kernel_rfl
  have i4 : ∀ w, (Instr.index 83 (.agg #[.int .i64 8, .int .i64 3, .int .i64 2, .int .i64 3, .int .i64 8]) (.int .i64 4)).run Try.prog w = .ok (.int .i64 8) w := fun _ => by kernel_rfl
  go_wp2_with fail
  go_loopw [5, 22] (fun q i wr => ∃ k : Nat, ((k = 0 ∧ i = .int .i64 0 ∧ q = .int .i64 0 ∧ Hid (Box wr w1.heap.size 83 #[.int .i64 0, .int .i64 0, .int .i64 0, .int .i64 0, .int .i64 0])) ∨ (k = 1 ∧ i = .int .i64 1 ∧ q = .int .i64 8 ∧ Hid (Box wr w1.heap.size 83 #[.int .i64 v0, .int .i64 0, .int .i64 0, .int .i64 0, .int .i64 0])) ∨ (k = 2 ∧ i = .int .i64 2 ∧ q = .int .i64 11 ∧ Hid (Box wr w1.heap.size 83 #[.int .i64 v0, .int .i64 v1, .int .i64 0, .int .i64 0, .int .i64 0])) ∨ (k = 3 ∧ i = .int .i64 3 ∧ q = .int .i64 13 ∧ Hid (Box wr w1.heap.size 83 #[.int .i64 v0, .int .i64 v1, .int .i64 v2, .int .i64 0, .int .i64 0])) ∨ (k = 4 ∧ i = .int .i64 4 ∧ q = .int .i64 16 ∧ Hid (Box wr w1.heap.size 83 #[.int .i64 v0, .int .i64 v1, .int .i64 v2, .int .i64 v3, .int .i64 0])) ∨ (k = 5 ∧ i = .int .i64 5 ∧ q = .int .i64 24 ∧ Hid (Box wr w1.heap.size 83 #[.int .i64 v0, .int .i64 v1, .int .i64 v2, .int .i64 v3, .int .i64 v4]))) ∧
      Hid (Box wr (w.heap.size + 1) 23 #[.int .i64 0, .int .i64 0, .int .i64 0, .int .i64 0, .int .i64 0]) ∧ Hid (Box wr w.heap.size 26 #[.int .i64 bs.length, .slice a ((bs.length + 7) / 8) cap]) ∧ Hid (Keeps w wr)) (fun _ i _ => 5 - (intOf i).toNat)
  case atStart => exact ⟨0, .inl ⟨rfl, rfl, rfl, HB⟩, HZ, HA, HK⟩
  case round =>
    clear HB HZ HA HK
    obtain ⟨k, hkk, HZ, HA, HK⟩ := hrel
    have a0 := HA.out.cell 0 _ rfl
    have a1 := HA.out.cell 1 _ rfl
    have hal := HA.out.lt
    have hzl := HZ.out.lt
    rcases hkk with ⟨rfl, rfl, rfl, HB⟩ | ⟨rfl, rfl, rfl, HB⟩ | ⟨rfl, rfl, rfl, HB⟩ | ⟨rfl, rfl, rfl, HB⟩ | ⟨rfl, rfl, rfl, HB⟩ | ⟨rfl, rfl, rfl, HB⟩
    · go_wp2_with fail
      with_reducible refine (get_ok ⟨bs.length, a, (bs.length + 7) / 8, cap, pack bs⟩ bs 0 8 0 8 _ (by decide) (by decide) (by exact HX.out.keeps HK.out) (by decide) (by have := HL.out; omega)).mono ?_
      rw [← H0.out]
      rintro e w3 ⟨rfl, hk3⟩
      have HB3 := Lib.hid (HB.out.keeps hk3)
      have HZ3 := Lib.hid (HZ.out.keeps hk3)
      have HA3 := Lib.hid (HA.out.keeps hk3)
      have HK3 := Lib.hid (HK.out.trans hk3)
      have b0 := HB3.out.cell 0 _ rfl
      have bf := HB3.out.frozen
      have hbl := HB3.out.lt
      have hu : IntKind.i64.wrap (v0 : Int) = v0 := IntWalk.i64_in _ (by omega)
      clear hk3 a0 a1 hal hzl HB HZ HA HK
      go_wp2_with fail
      go_roundw
      case rel =>
        refine ⟨1, .inr (.inl ⟨rfl, by go_num, by go_num, ?_⟩), ?_, ?_, ?_⟩
        · exact Box.putP HB3.out 0 _
        · exact HZ3.out.keepsBut (KeepsBut.setCell _ w1.heap.size _ _) (by omega)
        · exact HA3.out.keepsBut (KeepsBut.setCell _ w1.heap.size _ _) (by omega)
        · exact HK3.out.setCell (p := ⟨w1.heap.size, 0, none⟩) (by simp only; omega) _
      case measure => simp [intOf]
    · go_wp2_with fail
      with_reducible refine (get_ok ⟨bs.length, a, (bs.length + 7) / 8, cap, pack bs⟩ bs 8 3 8 3 _ (by decide) (by decide) (by exact HX.out.keeps HK.out) (by decide) (by have := HL.out; omega)).mono ?_
      rw [← H1.out]
      rintro e w3 ⟨rfl, hk3⟩
      have HB3 := Lib.hid (HB.out.keeps hk3)
      have HZ3 := Lib.hid (HZ.out.keeps hk3)
      have HA3 := Lib.hid (HA.out.keeps hk3)
      have HK3 := Lib.hid (HK.out.trans hk3)
      have b0 := HB3.out.cell 1 _ rfl
      have bf := HB3.out.frozen
      have hbl := HB3.out.lt
      have hu : IntKind.i64.wrap (v1 : Int) = v1 := IntWalk.i64_in _ (by omega)
      clear hk3 a0 a1 hal hzl HB HZ HA HK
      go_wp2_with fail
      go_roundw
      case rel =>
        refine ⟨2, .inr (.inr (.inl ⟨rfl, by go_num, by go_num, ?_⟩)), ?_, ?_, ?_⟩
        · exact Box.putP HB3.out 1 _
        · exact HZ3.out.keepsBut (KeepsBut.setCell _ w1.heap.size _ _) (by omega)
        · exact HA3.out.keepsBut (KeepsBut.setCell _ w1.heap.size _ _) (by omega)
        · exact HK3.out.setCell (p := ⟨w1.heap.size, 1, none⟩) (by simp only; omega) _
      case measure => simp [intOf]
    · go_wp2_with fail
      with_reducible refine (get_ok ⟨bs.length, a, (bs.length + 7) / 8, cap, pack bs⟩ bs 11 2 11 2 _ (by decide) (by decide) (by exact HX.out.keeps HK.out) (by decide) (by have := HL.out; omega)).mono ?_
      rw [← H2.out]
      rintro e w3 ⟨rfl, hk3⟩
      have HB3 := Lib.hid (HB.out.keeps hk3)
      have HZ3 := Lib.hid (HZ.out.keeps hk3)
      have HA3 := Lib.hid (HA.out.keeps hk3)
      have HK3 := Lib.hid (HK.out.trans hk3)
      have b0 := HB3.out.cell 2 _ rfl
      have bf := HB3.out.frozen
      have hbl := HB3.out.lt
      have hu : IntKind.i64.wrap (v2 : Int) = v2 := IntWalk.i64_in _ (by omega)
      clear hk3 a0 a1 hal hzl HB HZ HA HK
      go_wp2_with fail
      go_roundw
      case rel =>
        refine ⟨3, .inr (.inr (.inr (.inl ⟨rfl, by go_num, by go_num, ?_⟩))), ?_, ?_, ?_⟩
        · exact Box.putP HB3.out 2 _
        · exact HZ3.out.keepsBut (KeepsBut.setCell _ w1.heap.size _ _) (by omega)
        · exact HA3.out.keepsBut (KeepsBut.setCell _ w1.heap.size _ _) (by omega)
        · exact HK3.out.setCell (p := ⟨w1.heap.size, 2, none⟩) (by simp only; omega) _
      case measure => simp [intOf]
    · go_wp2_with fail
      with_reducible refine (get_ok ⟨bs.length, a, (bs.length + 7) / 8, cap, pack bs⟩ bs 13 3 13 3 _ (by decide) (by decide) (by exact HX.out.keeps HK.out) (by decide) (by have := HL.out; omega)).mono ?_
      rw [← H3.out]
      rintro e w3 ⟨rfl, hk3⟩
      have HB3 := Lib.hid (HB.out.keeps hk3)
      have HZ3 := Lib.hid (HZ.out.keeps hk3)
      have HA3 := Lib.hid (HA.out.keeps hk3)
      have HK3 := Lib.hid (HK.out.trans hk3)
      have b0 := HB3.out.cell 3 _ rfl
      have bf := HB3.out.frozen
      have hbl := HB3.out.lt
      have hu : IntKind.i64.wrap (v3 : Int) = v3 := IntWalk.i64_in _ (by omega)
      clear hk3 a0 a1 hal hzl HB HZ HA HK
      go_wp2_with fail
      go_roundw
      case rel =>
        refine ⟨4, .inr (.inr (.inr (.inr (.inl ⟨rfl, by go_num, by go_num, ?_⟩)))), ?_, ?_, ?_⟩
        · exact Box.putP HB3.out 3 _
        · exact HZ3.out.keepsBut (KeepsBut.setCell _ w1.heap.size _ _) (by omega)
        · exact HA3.out.keepsBut (KeepsBut.setCell _ w1.heap.size _ _) (by omega)
        · exact HK3.out.setCell (p := ⟨w1.heap.size, 3, none⟩) (by simp only; omega) _
      case measure => simp [intOf]
    · go_wp2_with fail
      with_reducible refine (get_ok ⟨bs.length, a, (bs.length + 7) / 8, cap, pack bs⟩ bs 16 8 16 8 _ (by decide) (by decide) (by exact HX.out.keeps HK.out) (by decide) (by have := HL.out; omega)).mono ?_
      rw [← H4.out]
      rintro e w3 ⟨rfl, hk3⟩
      have HB3 := Lib.hid (HB.out.keeps hk3)
      have HZ3 := Lib.hid (HZ.out.keeps hk3)
      have HA3 := Lib.hid (HA.out.keeps hk3)
      have HK3 := Lib.hid (HK.out.trans hk3)
      have b0 := HB3.out.cell 4 _ rfl
      have bf := HB3.out.frozen
      have hbl := HB3.out.lt
      have hu : IntKind.i64.wrap (v4 : Int) = v4 := IntWalk.i64_in _ (by omega)
      clear hk3 a0 a1 hal hzl HB HZ HA HK
      go_wp2_with fail
      go_roundw
      case rel =>
        refine ⟨5, .inr (.inr (.inr (.inr (.inr (⟨rfl, by go_num, by go_num, ?_⟩))))), ?_, ?_, ?_⟩
        · exact Box.putP HB3.out 4 _
        · exact HZ3.out.keepsBut (KeepsBut.setCell _ w1.heap.size _ _) (by omega)
        · exact HA3.out.keepsBut (KeepsBut.setCell _ w1.heap.size _ _) (by omega)
        · exact HK3.out.setCell (p := ⟨w1.heap.size, 4, none⟩) (by simp only; omega) _
      case measure => simp [intOf]
    · have b0 := HB.out.cell 0 _ rfl
      have b1 := HB.out.cell 1 _ rfl
      have b2 := HB.out.cell 2 _ rfl
      have b3 := HB.out.cell 3 _ rfl
      have b4 := HB.out.cell 4 _ rfl
      go_wp2_with fail
      cases r
      · with_reducible refine (ccheck_no ⟨v0, v1, v2, v3, v4⟩ _ HR.out).mono ?_
        rintro e w4 ⟨rfl, hk4⟩
        have HZ4 := Lib.hid ((HZ.out.next (.cells #[.int .i64 v0, .int .i64 v1, .int .i64 v2, .int .i64 v3, .int .i64 v4] 23)).keeps hk4)
        have HK4 := Lib.hid ((HK.out.alloc (.cells #[.int .i64 v0, .int .i64 v1, .int .i64 v2, .int .i64 v3, .int .i64 v4] 23)).trans hk4)
        have z0 := HZ4.out.cell 0 _ rfl
        have z1 := HZ4.out.cell 1 _ rfl
        have z2 := HZ4.out.cell 2 _ rfl
        have z3 := HZ4.out.cell 3 _ rfl
        have z4 := HZ4.out.cell 4 _ rfl
        have zf := HZ4.out.frozen
        clear hk4
        go_wp2_with fail
        refine bodyPost_ret (by simp [results, Try.results16, go_sem, CS.zero, *]) rfl ⟨rfl, ((((HK4.out.setCell (by simp) _).setCell (by simp) _).setCell (by simp) _).setCell (by simp) _).setCell (by simp) _⟩
      · with_reducible refine (ccheck_ok ⟨v0, v1, v2, v3, v4⟩ _ HR.out).mono ?_
        rintro e w4 ⟨rfl, hk4⟩
        have HZ4 := Lib.hid ((HZ.out.next (.cells #[.int .i64 v0, .int .i64 v1, .int .i64 v2, .int .i64 v3, .int .i64 v4] 23)).keeps hk4)
        have HK4 := Lib.hid ((HK.out.alloc (.cells #[.int .i64 v0, .int .i64 v1, .int .i64 v2, .int .i64 v3, .int .i64 v4] 23)).trans hk4)
        have HC4 := (Box.new wr 23 #[.int .i64 v0, .int .i64 v1, .int .i64 v2, .int .i64 v3, .int .i64 v4]).keeps hk4
        have c0 := HC4.cell 0 _ rfl
        have c1 := HC4.cell 1 _ rfl
        have c2 := HC4.cell 2 _ rfl
        have c3 := HC4.cell 3 _ rfl
        have c4 := HC4.cell 4 _ rfl
        have z0 := HZ4.out.cell 0 _ rfl
        have z1 := HZ4.out.cell 1 _ rfl
        have z2 := HZ4.out.cell 2 _ rfl
        have z3 := HZ4.out.cell 3 _ rfl
        have z4 := HZ4.out.cell 4 _ rfl
        have zf := HZ4.out.frozen
        clear hk4 HC4
        go_wp2_with fail
        refine bodyPost_ret (by simp [results, Try.results16, go_sem, *]) rfl ⟨rfl, ((((HK4.out.setCell (by simp) _).setCell (by simp) _).setCell (by simp) _).setCell (by simp) _).setCell (by simp) _⟩
theorem cparse_any (x : RB) (w : World) (hx : x.In w) : Calls Try.prog 16 #[x.val] w fun e w' => e = .returned (.tuple #[(cparseRes x).1.val, .int .i64 (cparseRes x).2]) ∧ Keeps w w' := by
  unfold cparseRes
  cases hc : chk x.n x.l
  · exact cparse_bad x w hx hc
  · have hi := hx.is hc
    rw [if_pos rfl]
    by_cases hl : x.bits.length = 24
    · cases hr : csOk (csOf x.bits) 8
      · rw [cparse_may hl hr]; exact cparse_at x x.bits w hi hl false hr
      · rw [cparse_ok hl hr]; exact cparse_at x x.bits w hi hl true hr
    · rw [cparse_long hl]; exact cparse_long' x x.bits w hi hl
end Go.Proofs.Ytdjbalaicfienaa
