/- The walks of layer 4, 2: Bits. -/
import Derived.Test.YtdjbalaicfienaaC2
import Derived.Test.YtdjbalaicfienaaW16
import Derived.Deep.RegionHeld3
import Derived.Deep.DeepCutAuto
import Derived.Deep.DrawnRows
namespace Go.Proofs.Ytdjbalaicfienaa
open Go.RowKit
set_option linter.unusedVariables false
set_option linter.unusedSimpArgs false
attribute [local go_sem ↓] Go.wp_at_zero Go.wp_at_succ

theorem Box.putP {w : World} {b t : Nat} {c : Array Value} (h : Box w b t c) (i : Nat) (v : Value) : Box (w.setCell ⟨b, i, none⟩ v) b t (c.setIfInBounds i v) := heap_setCell_same w b i c t v h
/-- the bits of the first k fields -/
def csTo (t p m x b : Nat) : Nat → List Bool
  | 0 => []
  | 1 => [] ++ numBits t 8
  | 2 => [] ++ numBits t 8 ++ numBits p 3
  | 3 => [] ++ numBits t 8 ++ numBits p 3 ++ numBits m 2
  | 4 => [] ++ numBits t 8 ++ numBits p 3 ++ numBits m 2 ++ numBits x 3
  | _ => [] ++ numBits t 8 ++ numBits p 3 ++ numBits m 2 ++ numBits x 3 ++ numBits b 8
def csBits (c : CS) : List Bool := csTo c.t.toNat c.p.toNat c.m.toNat c.x.toNat c.b.toNat 5
def cbitsRes (c : CS) : List Bool × Int := if csOk c 8 then (csBits c, 0) else ([], 40)
theorem csErr_yes {c : CS} {n : Int} (h1 : csN n = true) (h2 : csOk c n = true) : csErr c n = 0 := by unfold csErr; rw [if_pos h1, if_pos h2]
theorem csErr_no {c : CS} {n : Int} (h1 : csN n = true) (h2 : csOk c n = false) : csErr c n = 40 := by unfold csErr; rw [if_pos h1, if_neg (by rw [h2]; decide)]
theorem ccheck_ok (c : CS) (w : World) (h : csOk c 8 = true) : Calls Try.prog 19 #[c.val, .int .i64 8] w fun e w' => e = .returned (.int .i64 0) ∧ Keeps w w' := by
  have := ccheck_any c 8 w
  rwa [csErr_yes (by decide) h] at this
theorem ccheck_no (c : CS) (w : World) (h : csOk c 8 = false) : Calls Try.prog 19 #[c.val, .int .i64 8] w fun e w' => e = .returned (.int .i64 40) ∧ Keeps w w' := by
  have := ccheck_any c 8 w
  rwa [csErr_no (by decide) h] at this
theorem rccheck_ok (c : CS) (w : World) (h : csOk c 8 = true) : Calls Try.prog 20 #[c.val, .int .i64 8] w fun e w' => e = .returned (.int .i64 0) ∧ Keeps w w' := by
  have := rccheck_any c 8 w
  rwa [csErr_yes (by decide) h] at this
theorem rccheck_no (c : CS) (w : World) (h : csOk c 8 = false) : Calls Try.prog 20 #[c.val, .int .i64 8] w fun e w' => e = .returned (.int .i64 40) ∧ Keeps w w' := by
  have := rccheck_any c 8 w
  rwa [csErr_no (by decide) h] at this

set_option maxHeartbeats 1000000 in
set_option maxRecDepth 100000 in
theorem cbits_no (c : CS) (w : World) (h : csOk c 8 = false) :
    Calls Try.prog 14 #[c.val] w fun e w' => e = .returned (.tuple #[RB.zero.val, .int .i64 40]) ∧ Keeps w w' := by
  have HC := Lib.hid h
  clear h
  obtain ⟨t, p, m, x, b⟩ := c
  show Calls Try.prog 14 #[.agg #[.int .i64 t, .int .i64 p, .int .i64 m, .int .i64 x, .int .i64 b]] w _
  go_enter Try.func14, Try.ntmps14
  go_wp2_with fail
  with_reducible refine (ccheck_no ⟨t, p, m, x, b⟩ _ HC.out).mono ?_
  rintro e w1 ⟨rfl, hk1⟩
  have hb := (Box.new (w.alloc (.cells #[.int .i64 t, .int .i64 p, .int .i64 m, .int .i64 x, .int .i64 b] 23)) 26 #[.int .i64 0, .slice none 0 0]).keeps hk1
  rw [World.size_alloc] at hb
  have hx0 := hb.cell 0 _ rfl
  have hx1 := hb.cell 1 _ rfl
  have hxf := hb.frozen
  have HK := Lib.hid (((Keeps.refl w).alloc _).alloc _ |>.trans hk1)
  clear hk1 hb
  go_wp2_with fail
  refine bodyPost_ret (by simp [results, Try.results14, go_sem, RB.zero, *]) rfl ⟨rfl, (HK.out.setCell (by simp) _).setCell (by simp) _⟩

set_option maxHeartbeats 4000000 in
set_option maxRecDepth 100000 in
theorem cbits_ok (tn pn mn xn bn : Nat) (w : World) (ht : tn < 256) (hp : pn < 8) (hm : mn < 4) (hx : xn ≤ 4) (hb : bn < 256) :
    Calls Try.prog 14 #[.agg #[.int .i64 tn, .int .i64 pn, .int .i64 mn, .int .i64 xn, .int .i64 bn]] w fun e w' => Res w w' e (csTo tn pn mn xn bn 5, 0) := by
  have HC := Lib.hid (show csOk ⟨tn, pn, mn, xn, bn⟩ 8 = true by rw [csOk_iff]; exact ⟨by simp only; omega, by simp only; omega, by simp only; omega, by simp only; omega, by simp only; omega, by simp only; omega, by simp only; omega, by simp only; omega, by simp only; omega, by show (bn : Int) < 256; omega⟩)
  have hba := Box.new w 23 #[.int .i64 tn, .int .i64 pn, .int .i64 mn, .int .i64 xn, .int .i64 bn] |>.next (.cells #[.int .i64 0, .slice none 0 0] 26)
  have hbz := Box.new (w.alloc (.cells #[.int .i64 tn, .int .i64 pn, .int .i64 mn, .int .i64 xn, .int .i64 bn] 23)) 26 #[.int .i64 0, .slice none 0 0]
  rw [World.size_alloc] at hbz
  have HA := Lib.hid hba
  have HZ := Lib.hid hbz
  have HK := Lib.hid (((Keeps.refl w).alloc (.cells #[.int .i64 tn, .int .i64 pn, .int .i64 mn, .int .i64 xn, .int .i64 bn] 23)).alloc (.cells #[.int .i64 0, .slice none 0 0] 26))
  clear hba hbz
  go_enter Try.func14, Try.ntmps14
  go_wp2_with fail
  with_reducible refine (ccheck_ok ⟨tn, pn, mn, xn, bn⟩ _ HC.out).mono ?_
  rintro e w1 ⟨rfl, hk1⟩
  have HA1 := Lib.hid (HA.out.keeps hk1)
  have HZ1 := Lib.hid (HZ.out.keeps hk1)
  have HK1 := Lib.hid (HK.out.trans hk1)
  clear hk1 HA HZ HK
  go_wp2_with fail
  with_reducible refine (widths_any _).mono ?_
  rintro e w2 ⟨rfl, hk2⟩
  have HB2 := Lib.hid ((Box.new w1 26 #[.int .i64 0, .slice none 0 0]).keeps hk2)
  have HA2 := Lib.hid ((HA1.out.next _).keeps hk2)
  have HZ2 := Lib.hid ((HZ1.out.next _).keeps hk2)
  have HK2 := Lib.hid ((HK1.out.alloc _).trans hk2)
  have hs1 := HZ1.out.lt
  have hs2 := HB2.out.lt
  have a0 := HA2.out.cell 0 _ rfl
  have a1 := HA2.out.cell 1 _ rfl
  have a2 := HA2.out.cell 2 _ rfl
  have a3 := HA2.out.cell 3 _ rfl
  have a4 := HA2.out.cell 4 _ rfl
  have hal := HA2.out.lt
  clear hk2 HA1 HZ1 HK1
  go_wp2_with fail
  with_reducible refine (fields_any ⟨tn, pn, mn, xn, bn⟩ _).mono ?_
  rintro e w3 ⟨rfl, hk3⟩
  have HW := Lib.hid ((Box.new w2 83 #[.int .i64 8, .int .i64 3, .int .i64 2, .int .i64 3, .int .i64 8]).keeps hk3)
  have HB3 := Lib.hid ((HB2.out.next _).keeps hk3)
  have HZ3 := Lib.hid ((HZ2.out.next _).keeps hk3)
  have HK3 := Lib.hid ((HK2.out.alloc _).trans hk3)
  have hs3 := HW.out.lt
  clear hk3 HA2 HZ2 HK2 HB2 a0 a1 a2 a3 a4 hal
  have i0 : ∀ w, (Instr.index 83 (.agg #[.int .i64 tn, .int .i64 pn, .int .i64 mn, .int .i64 xn, .int .i64 bn]) (.int .i64 0)).run Try.prog w = .ok (.int .i64 tn) w := fun _ => by kernel_rfl
  have i1 : ∀ w, (Instr.index 83 (.agg #[.int .i64 tn, .int .i64 pn, .int .i64 mn, .int .i64 xn, .int .i64 bn]) (.int .i64 1)).run Try.prog w = .ok (.int .i64 pn) w := fun _ => by kernel_rfl
  have i2 : ∀ w, (Instr.index 83 (.agg #[.int .i64 tn, .int .i64 pn, .int .i64 mn, .int .i64 xn, .int .i64 bn]) (.int .i64 2)).run Try.prog w = .ok (.int .i64 mn) w := fun _ => by kernel_rfl
  have i3 : ∀ w, (Instr.index 83 (.agg #[.int .i64 tn, .int .i64 pn, .int .i64 mn, .int .i64 xn, .int .i64 bn]) (.int .i64 3)).run Try.prog w = .ok (.int .i64 xn) w := fun _ => by kernel_rfl
  have i4 : ∀ w, (Instr.index 83 (.agg #[.int .i64 tn, .int .i64 pn, .int .i64 mn, .int .i64 xn, .int .i64 bn]) (.int .i64 4)).run Try.prog w = .ok (.int .i64 bn) w := fun _ => by kernel_rfl
  go_wp2_with fail
  go_loopw [17] (fun i wr => ∃ (k : Nat) (y : RB), k ≤ 5 ∧ i = .int .i64 k ∧ Hid (y.Is wr (csTo tn pn mn xn bn k)) ∧ Hid (y.Fr (w.heap.size + 2)) ∧ Hid (Box wr w1.heap.size 26 #[.int .i64 y.n, .slice y.a y.len y.cap]) ∧
      Hid (Box wr w2.heap.size 83 #[.int .i64 8, .int .i64 3, .int .i64 2, .int .i64 3, .int .i64 8]) ∧ Hid (Box wr (w.heap.size + 1) 26 #[.int .i64 0, .slice none 0 0]) ∧ Hid (Keeps w wr)) (fun i _ => 5 - (intOf i).toNat)
  case atStart => exact ⟨0, RB.zero, by omega, rfl, RB.zero_is _, RB.zero_fr _, HB3, HW, HZ3, HK3⟩
  case round =>
    clear HB3 HW HZ3 HK3
    obtain ⟨k, y, hk, rfl, HY, HF, HB, HW, HZ, HK⟩ := hrel
    obtain ⟨yn, ya, ylen, ycap, yl⟩ := y
    have hbl := HB.out.lt
    have hwl := HW.out.lt
    have hzl := HZ.out.lt
    by_cases hlt : k < 5
    · obtain ⟨v, wd, hv, hwd, hidx, hcw, hsucc, hln⟩ : ∃ v wd : Nat, v < 2 ^ wd ∧ wd ≤ 8 ∧ (∀ w, (Instr.index 83 (.agg #[.int .i64 tn, .int .i64 pn, .int .i64 mn, .int .i64 xn, .int .i64 bn]) (.int .i64 (k : Int))).run Try.prog w = .ok (.int .i64 v) w) ∧
          (#[.int .i64 8, .int .i64 3, .int .i64 2, .int .i64 3, .int .i64 8] : Array Value)[k]? = some (.int .i64 wd) ∧ csTo tn pn mn xn bn (k + 1) = csTo tn pn mn xn bn k ++ numBits v wd ∧ (csTo tn pn mn xn bn k).length ≤ 16 := by
        have hk' : k = 0 ∨ k = 1 ∨ k = 2 ∨ k = 3 ∨ k = 4 := by omega
        rcases hk' with rfl | rfl | rfl | rfl | rfl
        · exact ⟨tn, 8, ht, by decide, fun _ => by kernel_rfl, rfl, rfl, by simp [csTo, numBits_len]⟩
        · exact ⟨pn, 3, hp, by decide, fun _ => by kernel_rfl, rfl, rfl, by simp [csTo, numBits_len]⟩
        · exact ⟨mn, 2, hm, by decide, fun _ => by kernel_rfl, rfl, rfl, by simp [csTo, numBits_len]⟩
        · exact ⟨xn, 3, by omega, by decide, fun _ => by kernel_rfl, rfl, rfl, by simp [csTo, numBits_len]⟩
        · exact ⟨bn, 8, hb, by decide, fun _ => by kernel_rfl, rfl, rfl, by simp [csTo, numBits_len]⟩
      have hb0 := HB.out.cell 0 _ rfl
      have hb1 := HB.out.cell 1 _ rfl
      have hw0 := HW.out.cell k _ hcw
      have hv8 : v < 256 := by have : 2 ^ wd ≤ 2 ^ 8 := Nat.pow_le_pow_right (by decide) hwd; omega
      have hu0 : IntKind.u64.wrap (v : Int) = v := IntWalk.u64_in _ (by omega)
      have hk5 : (k : Int) < 5 := by omega
      have hk0 : (0 : Int) ≤ (k : Int) := by omega
      have HV := Lib.hid hv
      have HSU := Lib.hid hsucc
      have HLN := Lib.hid hln
      clear hv hcw hsucc hln i0 i1 i2 i3 i4
      go_upto_region 8 with fail
      go_cut [8, 9] (fun v8 v9 wx => ∃ (z : RB) (g : Nat), v8 = .pointer (some ⟨g, 0, none⟩) ∧ v9 = .int .i64 0 ∧ Hid (z.Is wx (csTo tn pn mn xn bn (k + 1))) ∧ Hid (z.Fr wr.heap.size) ∧ Hid (Box wx g 26 #[.int .i64 z.n, .slice z.a z.len z.cap]) ∧ wr.heap.size ≤ g ∧ Hid (Keeps wr wx))
      case first =>
        go_region_held3 (fun w' => w'.cell? ⟨w1.heap.size, 0, none⟩ = some (.int .i64 yn) ∧ w'.cell? ⟨w1.heap.size, 1, none⟩ = some (.slice ya ylen ycap) ∧ w'.cell? ⟨w2.heap.size, k, none⟩ = some (.int .i64 wd)) ((refine ⟨?_, ?_, ?_⟩ <;> first | (first | exact Keeps.later (Keeps.refl wr).drew hb0 | exact Keeps.later ((Keeps.refl wr).alloc _).drew hb0 | exact Keeps.later (hkw.alloc _) hb0 | exact Keeps.later hkw hb0 | exact Keeps.later ((hkw.setCell (p := ⟨wr.heap.size, 0, none⟩) (Nat.le_refl _) _).setCell (p := ⟨wr.heap.size, 1, none⟩) (Nat.le_refl _) _) hb0) | (first | exact Keeps.later (Keeps.refl wr).drew hb1 | exact Keeps.later ((Keeps.refl wr).alloc _).drew hb1 | exact Keeps.later (hkw.alloc _) hb1 | exact Keeps.later hkw hb1 | exact Keeps.later ((hkw.setCell (p := ⟨wr.heap.size, 0, none⟩) (Nat.le_refl _) _).setCell (p := ⟨wr.heap.size, 1, none⟩) (Nat.le_refl _) _) hb1) | (first | exact Keeps.later (Keeps.refl wr).drew hw0 | exact Keeps.later ((Keeps.refl wr).alloc _).drew hw0 | exact Keeps.later (hkw.alloc _) hw0 | exact Keeps.later hkw hw0 | exact Keeps.later ((hkw.setCell (p := ⟨wr.heap.size, 0, none⟩) (Nat.le_refl _) _).setCell (p := ⟨wr.heap.size, 1, none⟩) (Nat.le_refl _) _) hw0)))
          (first | (go_at_call 62; (with_reducible refine (put_ok ⟨yn, ya, ylen, ycap, yl⟩ (csTo tn pn mn xn bn k) v wd wd _ rfl (HY.out.keeps ?_) (by omega) HV.out (by have := HLN.out; omega)).mono ?_); (first | exact (Keeps.refl _).drew | exact ((Keeps.refl _).alloc _).drew); rintro e w4 ⟨z, rfl, hz, hzf, hk4⟩; obtain ⟨zn, za, zlen, zcap, zl⟩ := z; have hkw : Keeps wr w4 := (by first | exact ((Keeps.refl _).drew).trans hk4 | exact (((Keeps.refl _).alloc _).drew).trans hk4); have hsz4 := hkw.size; (first | (have hnb := Box.keeps ((Box.new wr 26 #[.int .i64 0, .slice none 0 0]).keeps ((Keeps.refl _).drew)) hk4; have HNB := Lib.hid hnb; have g0 := hnb.cell 0 _ rfl; have g1 := hnb.cell 1 _ rfl; have gf := hnb.frozen; have gl := hnb.lt; clear hnb) | skip); have HKW := Lib.hid hkw; have HK4 := Lib.hid hk4; have HZI := Lib.hid hz; have HZJ := Lib.hid hzf; clear hz hzf hk4))
        all_goals
          go_wp2_with fail
          go_meet
          first
            | exact ⟨⟨zn, za, zlen, zcap, zl⟩, w4.heap.size, rfl, rfl, by rw [HSU.out]; exact HZI.out.keeps ((Keeps.refl _).alloc _), HZJ.out.mono (by simp), Box.new _ _ _, by omega, HKW.out.alloc _⟩
            | exact ⟨⟨zn, za, zlen, zcap, zl⟩, wr.heap.size, rfl, rfl, by rw [HSU.out]; exact RB.Is.put (b := wr.heap.size) (RB.Is.put (b := wr.heap.size) HZI.out HZJ.out (by simp) _ _) HZJ.out (by simp) _ _, HZJ.out.mono (by simp), Box.putP (Box.putP HNB.out 0 _) 1 _, Nat.le_refl _,
                (HKW.out.setCell (p := ⟨wr.heap.size, 0, none⟩) (Nat.le_refl _) _).setCell (p := ⟨wr.heap.size, 1, none⟩) (Nat.le_refl _) _⟩
      case rest =>
        obtain ⟨z, g, rfl, rfl, HZ4, HZF, HB8, hg, HKC⟩ := hcut
        obtain ⟨zn, za, zlen, zcap, zl⟩ := z
        have HBW := Lib.hid (HB.out.keeps HKC.out)
        have HW4 := Lib.hid (HW.out.keeps HKC.out)
        have HZZ4 := Lib.hid (HZ.out.keeps HKC.out)
        have HK4 := Lib.hid (HK.out.trans HKC.out)
        have hsz := HKC.out.size
        clear HB HW HZ HK HY HF hb0 hb1 hw0 hu0
        have hb0 := HBW.out.cell 0 _ rfl
        have hb1 := HBW.out.cell 1 _ rfl
        have hbf := HBW.out.frozen
        have g0 := HB8.out.cell 0 _ rfl
        have g1 := HB8.out.cell 1 _ rfl
        go_wp2_with fail
        go_roundw
        case rel =>
          refine ⟨k + 1, ⟨zn, za, zlen, zcap, zl⟩, by omega, by go_num, ?_, ?_, ?_, ?_, ?_, ?_⟩
          · exact RB.Is.put (b := w1.heap.size) (RB.Is.put (b := w1.heap.size) HZ4.out HZF.out (by omega) _ _) HZF.out (by omega) _ _
          · exact RB.Fr.mono HZF.out (by omega)
          · exact Box.putP (Box.putP HBW.out 0 _) 1 _
          · exact (HW4.out.keepsBut (KeepsBut.setCell _ w1.heap.size _ _) (by omega)).keepsBut (KeepsBut.setCell _ w1.heap.size _ _) (by omega)
          · exact (HZZ4.out.keepsBut (KeepsBut.setCell _ w1.heap.size _ _) (by omega)).keepsBut (KeepsBut.setCell _ w1.heap.size _ _) (by omega)
          · exact (HK4.out.setCell (p := ⟨w1.heap.size, 0, none⟩) (by simp only; omega) _).setCell (p := ⟨w1.heap.size, 1, none⟩) (by simp only; omega) _
        case measure => simp [intOf]; omega
    · obtain rfl : k = 5 := by omega
      have hz0 := HZ.out.cell 0 _ rfl
      have hz1 := HZ.out.cell 1 _ rfl
      have hb0 := HB.out.cell 0 _ rfl
      have hb1 := HB.out.cell 1 _ rfl
      have hzf := HZ.out.frozen
      go_wp2_with fail
      refine bodyPost_ret (by simp [results, Try.results14, go_sem, *]) rfl ⟨⟨yn, ya, ylen, ycap, yl⟩, rfl, ?_, HF.out.mono (by omega), ?_⟩
      · exact (HY.out.put HF.out (by omega) _ _).put HF.out (by omega) _ _
      · exact (HK.out.setCell (by simp) _).setCell (by simp) _
end Go.Proofs.Ytdjbalaicfienaa
