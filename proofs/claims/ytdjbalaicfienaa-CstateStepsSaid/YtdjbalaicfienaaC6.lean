/- The walks of the reference of layer 4, 3: Parse. -/
import Derived.Test.YtdjbalaicfienaaC5
import Derived.Deep.RegionHeld3
import Derived.Deep.DeepCutAuto
import Derived.Deep.DrawnRows
namespace Go.Proofs.Ytdjbalaicfienaa
open Go.RowKit
set_option linter.unusedVariables false
set_option linter.unusedSimpArgs false
attribute [local go_sem ↓] Go.wp_at_zero Go.wp_at_succ

set_option maxHeartbeats 1000000 in
set_option maxRecDepth 100000 in
theorem rfield_any (x : RB) (bs : List Bool) (at_ width v : Nat) (av wv : Int) (w : World) (hav : av = at_) (hwv : wv = width) (hx : x.Is w bs) (h1 : width ≤ 8) (h2 : at_ + width ≤ bs.length) (hv : v = getTo bs at_ width) :
    Calls Try.prog 67 #[x.val, .int .i64 av, .int .i64 wv] w fun e w' => e = .returned (.int .i64 v) ∧ Keeps w w' := by
  subst hav hwv
  have hlt := getTo_lt bs at_ width
  rw [← hv] at hlt
  have h8 : 2 ^ width ≤ 2 ^ 8 := Nat.pow_le_pow_right (by decide) h1
  have HX := Lib.hid hx
  have HV := Lib.hid hv
  have hv8 : v < 256 := by omega
  have hu : IntKind.i64.wrap (v : Int) = v := IntWalk.i64_in _ (by omega)
  clear hx hv h8 hlt
  obtain ⟨n, a, len, cap, l⟩ := x
  show Calls Try.prog 67 #[.agg #[.int .i64 n, .slice a len cap], .int .i64 at_, .int .i64 width] w _
  go_enter Try.func67, Try.ntmps67
  go_wp2_with fail
  with_reducible refine (rget_ok ⟨n, a, len, cap, l⟩ bs at_ width _ _ _ rfl rfl (by exact HX.out.keeps ((Keeps.refl w).alloc _)) (by omega) h2).mono ?_
  rw [← HV.out]
  rintro e w1 ⟨rfl, hk1⟩
  have HK := Lib.hid hk1.unbox
  clear hk1
  go_wp2_with fail
  go_ret
  exact ⟨rfl, HK.out⟩

set_option maxHeartbeats 1000000 in
set_option maxRecDepth 100000 in
theorem rcparse_bad (x : RB) (w : World) (hx : x.In w) (hc : chk x.n x.l = false) :
    Calls Try.prog 17 #[x.val] w fun e w' => e = .returned (.tuple #[CS.zero.val, .int .i64 10]) ∧ Keeps w w' := by
  have HX := Lib.hid hx
  have HC := Lib.hid hc
  clear hx hc
  obtain ⟨n, a, len, cap, l⟩ := x
  show Calls Try.prog 17 #[.agg #[.int .i64 n, .slice a len cap]] w _
  go_enter Try.func17, Try.ntmps17
  go_wp2_with fail
  with_reducible refine (rcheck_no ⟨n, a, len, cap, l⟩ _ (by exact HX.out.keeps (((Keeps.refl w).alloc _).alloc _)) HC.out).mono ?_
  rintro e w1 ⟨rfl, hk1⟩
  have hb := (Box.new (w.alloc (.cells #[.int .i64 n, .slice a len cap] 26)) 23 #[.int .i64 0, .int .i64 0, .int .i64 0, .int .i64 0, .int .i64 0]).keeps hk1
  rw [World.size_alloc] at hb
  have z0 := hb.cell 0 _ rfl
  have z1 := hb.cell 1 _ rfl
  have z2 := hb.cell 2 _ rfl
  have z3 := hb.cell 3 _ rfl
  have z4 := hb.cell 4 _ rfl
  have zf := hb.frozen
  have HK := Lib.hid (((Keeps.refl w).alloc _).alloc _ |>.trans hk1)
  clear hk1 hb
  go_wp2_with fail
  refine bodyPost_ret (by simp [results, Try.results17, go_sem, CS.zero, *]) rfl ⟨rfl, ((((HK.out.setCell (by simp) _).setCell (by simp) _).setCell (by simp) _).setCell (by simp) _).setCell (by simp) _⟩

set_option maxHeartbeats 1000000 in
set_option maxRecDepth 100000 in
theorem rcparse_long' (x : RB) (bs : List Bool) (w : World) (hx : x.Is w bs) (hl : ¬ bs.length = 24) :
    Calls Try.prog 17 #[x.val] w fun e w' => e = .returned (.tuple #[CS.zero.val, .int .i64 40]) ∧ Keeps w w' := by
  have HC := Lib.hid hx.chk
  have HX := Lib.hid hx
  have hmost := hx.most
  obtain ⟨a, cap, rfl⟩ := hx.shape
  clear hx
  have hd : ((bs.length : Int) != 24) = true := by rw [bne_iff_ne]; omega
  clear hl
  show Calls Try.prog 17 #[.agg #[.int .i64 bs.length, .slice a ((bs.length + 7) / 8) cap]] w _
  go_enter Try.func17, Try.ntmps17
  go_wp2_with fail
  with_reducible refine (rcheck_yes ⟨bs.length, a, (bs.length + 7) / 8, cap, pack bs⟩ _ (by exact HX.out.isIn.keeps (((Keeps.refl w).alloc _).alloc _)) HC.out).mono ?_
  rintro e w1 ⟨rfl, hk1⟩
  have hb := (Box.new (w.alloc (.cells #[.int .i64 bs.length, .slice a ((bs.length + 7) / 8) cap] 26)) 23 #[.int .i64 0, .int .i64 0, .int .i64 0, .int .i64 0, .int .i64 0]).keeps hk1
  have ha := ((Box.new w 26 #[.int .i64 bs.length, .slice a ((bs.length + 7) / 8) cap]).next (.cells #[.int .i64 0, .int .i64 0, .int .i64 0, .int .i64 0, .int .i64 0] 23)).keeps hk1
  rw [World.size_alloc] at hb
  have a0 := ha.cell 0 _ rfl
  have z0 := hb.cell 0 _ rfl
  have z1 := hb.cell 1 _ rfl
  have z2 := hb.cell 2 _ rfl
  have z3 := hb.cell 3 _ rfl
  have z4 := hb.cell 4 _ rfl
  have zf := hb.frozen
  have HK := Lib.hid (((Keeps.refl w).alloc _).alloc _ |>.trans hk1)
  clear hk1 hb ha
  go_wp2_with fail
  refine bodyPost_ret (by simp [results, Try.results17, go_sem, CS.zero, *]) rfl ⟨rfl, ((((HK.out.setCell (by simp) _).setCell (by simp) _).setCell (by simp) _).setCell (by simp) _).setCell (by simp) _⟩

set_option maxHeartbeats 16000000 in
set_option maxRecDepth 100000 in
theorem rcparse_at (x : RB) (bs : List Bool) (w : World) (hx : x.Is w bs) (hl : bs.length = 24) (r : Bool) (hr : csOk (csOf bs) 8 = r) :
    Calls Try.prog 17 #[x.val] w fun e w' => e = .returned (cond r (.tuple #[(csOf bs).val, .int .i64 0]) (.tuple #[CS.zero.val, .int .i64 40])) ∧ Keeps w w' := by
  have HC := Lib.hid hx.chk
  have HX := Lib.hid hx
  obtain ⟨a, cap, rfl⟩ := hx.shape
  clear hx
  have hd : ((bs.length : Int) != 24) = false := by rw [bne_eq_false_iff_eq]; omega
  obtain ⟨v0, h0⟩ : ∃ v, v = getTo bs 0 8 := ⟨_, rfl⟩
  obtain ⟨v1, h1⟩ : ∃ v, v = getTo bs 8 3 := ⟨_, rfl⟩
  obtain ⟨v2, h2⟩ : ∃ v, v = getTo bs 11 2 := ⟨_, rfl⟩
  obtain ⟨v3, h3⟩ : ∃ v, v = getTo bs 13 3 := ⟨_, rfl⟩
  obtain ⟨v4, h4⟩ : ∃ v, v = getTo bs 16 8 := ⟨_, rfl⟩
  have hcs : csOf bs = ⟨v0, v1, v2, v3, v4⟩ := by unfold csOf; rw [h0, h1, h2, h3, h4]
  rw [hcs] at hr ⊢
  have HR := Lib.hid hr
  have H0 := Lib.hid h0
  have H1 := Lib.hid h1
  have H2 := Lib.hid h2
  have H3 := Lib.hid h3
  have H4 := Lib.hid h4
  have HL := Lib.hid hl
  clear h0 h1 h2 h3 h4 hcs hr hl
  show Calls Try.prog 17 #[.agg #[.int .i64 bs.length, .slice a ((bs.length + 7) / 8) cap]] w _
  go_enter Try.func17, Try.ntmps17
  go_wp2_with fail
  with_reducible refine (rcheck_yes ⟨bs.length, a, (bs.length + 7) / 8, cap, pack bs⟩ _ (by exact HX.out.isIn.keeps (((Keeps.refl w).alloc _).alloc _)) HC.out).mono ?_
  rintro e w1 ⟨rfl, hk1⟩
  have hz := (Box.new (w.alloc (.cells #[.int .i64 bs.length, .slice a ((bs.length + 7) / 8) cap] 26)) 23 #[.int .i64 0, .int .i64 0, .int .i64 0, .int .i64 0, .int .i64 0]).keeps hk1
  have ha := ((Box.new w 26 #[.int .i64 bs.length, .slice a ((bs.length + 7) / 8) cap]).next (.cells #[.int .i64 0, .int .i64 0, .int .i64 0, .int .i64 0, .int .i64 0] 23)).keeps hk1
  rw [World.size_alloc] at hz
  have HZ := Lib.hid hz
  have HA := Lib.hid ha
  have HK := Lib.hid (((Keeps.refl w).alloc _).alloc _ |>.trans hk1)
  have HX1 := Lib.hid (HX.out.keeps HK.out)
  have a0 : w1.cell? ⟨w.heap.size, 0, none⟩ = some (.int .i64 bs.length) := ha.cell 0 _ rfl
  have a1 : w1.cell? ⟨w.heap.size, 1, none⟩ = some (.slice a ((bs.length + 7) / 8) cap) := ha.cell 1 _ rfl
  have hz1 := hz.lt
  have HKN := Lib.hid (Keeps.refl w1)
  clear hk1 hz ha
  go_upto_region 5 with fail
  clear hd
  go_cut [4] (fun v wx => ∃ g : Nat, v = .pointer (some ⟨g, 0, none⟩) ∧ Hid (Box wx g 23 #[.int .i64 v0, .int .i64 v1, .int .i64 v2, .int .i64 v3, .int .i64 v4]) ∧ w1.heap.size ≤ g ∧ Hid (Keeps w1 wx))
  case first =>
    clear HC HX HZ HK HR
    go_region_held3 (fun w' => w'.cell? ⟨w.heap.size, 0, none⟩ = some (.int .i64 bs.length) ∧ w'.cell? ⟨w.heap.size, 1, none⟩ = some (.slice a ((bs.length + 7) / 8) cap))
      ((refine ⟨Keeps.later (a := w1) ?_ a0, Keeps.later (a := w1) ?_ a1⟩ <;> repeat (first | with_reducible exact HKN.out | with_reducible refine Keeps.setCell ?_ hng _ | with_reducible refine Keeps.alloc ?_ _ | with_reducible refine Keeps.drew ?_)))
      (first | (go_at_call 67; with_reducible refine (rfield_any ⟨bs.length, a, (bs.length + 7) / 8, cap, pack bs⟩ bs 0 8 v0 0 8 _ (by decide) (by decide) (HX1.out.keeps ?_) (by decide) (by have := HL.out; omega) H0.out).mono ?_; (repeat (first | with_reducible exact HKN.out | with_reducible refine Keeps.setCell ?_ hng _ | with_reducible refine Keeps.alloc ?_ _ | with_reducible refine Keeps.drew ?_)); rintro e u ⟨rfl, hk⟩; have HKM := Lib.hid (Keeps.trans (show Keeps w1 _ by repeat (first | with_reducible exact HKN.out | with_reducible refine Keeps.setCell ?_ hng _ | with_reducible refine Keeps.alloc ?_ _ | with_reducible refine Keeps.drew ?_)) hk); (first | with_reducible have HNB := Lib.hid (HNB.out.keeps hk) | (with_reducible have HNB := Lib.hid (Box.keeps (Box.new _ 23 #[.int .i64 0, .int .i64 0, .int .i64 0, .int .i64 0, .int .i64 0]) hk); have hng := HKN.out.size) | (with_reducible have HNB := Lib.hid (Box.keeps (Box.keeps (Box.new _ 23 #[.int .i64 0, .int .i64 0, .int .i64 0, .int .i64 0, .int .i64 0]) ((Keeps.refl _).drew)) hk); have hng := HKN.out.size) | skip); (try clear g0 g1 g2 g3 g4 gf gl); (first | (have hnb := HNB.out; have g0 := hnb.cell 0 _ rfl; have g1 := hnb.cell 1 _ rfl; have g2 := hnb.cell 2 _ rfl; have g3 := hnb.cell 3 _ rfl; have g4 := hnb.cell 4 _ rfl; have gf := hnb.frozen; have gl := hnb.lt; clear hnb) | skip); clear hk HKN; have HKN := HKM; clear HKM) | (go_at_call 67; with_reducible refine (rfield_any ⟨bs.length, a, (bs.length + 7) / 8, cap, pack bs⟩ bs 8 3 v1 8 3 _ (by decide) (by decide) (HX1.out.keeps ?_) (by decide) (by have := HL.out; omega) H1.out).mono ?_; (repeat (first | with_reducible exact HKN.out | with_reducible refine Keeps.setCell ?_ hng _ | with_reducible refine Keeps.alloc ?_ _ | with_reducible refine Keeps.drew ?_)); rintro e u ⟨rfl, hk⟩; have HKM := Lib.hid (Keeps.trans (show Keeps w1 _ by repeat (first | with_reducible exact HKN.out | with_reducible refine Keeps.setCell ?_ hng _ | with_reducible refine Keeps.alloc ?_ _ | with_reducible refine Keeps.drew ?_)) hk); (first | with_reducible have HNB := Lib.hid (HNB.out.keeps hk) | (with_reducible have HNB := Lib.hid (Box.keeps (Box.new _ 23 #[.int .i64 0, .int .i64 0, .int .i64 0, .int .i64 0, .int .i64 0]) hk); have hng := HKN.out.size) | (with_reducible have HNB := Lib.hid (Box.keeps (Box.keeps (Box.new _ 23 #[.int .i64 0, .int .i64 0, .int .i64 0, .int .i64 0, .int .i64 0]) ((Keeps.refl _).drew)) hk); have hng := HKN.out.size) | skip); (try clear g0 g1 g2 g3 g4 gf gl); (first | (have hnb := HNB.out; have g0 := hnb.cell 0 _ rfl; have g1 := hnb.cell 1 _ rfl; have g2 := hnb.cell 2 _ rfl; have g3 := hnb.cell 3 _ rfl; have g4 := hnb.cell 4 _ rfl; have gf := hnb.frozen; have gl := hnb.lt; clear hnb) | skip); clear hk HKN; have HKN := HKM; clear HKM) | (go_at_call 67; with_reducible refine (rfield_any ⟨bs.length, a, (bs.length + 7) / 8, cap, pack bs⟩ bs 11 2 v2 11 2 _ (by decide) (by decide) (HX1.out.keeps ?_) (by decide) (by have := HL.out; omega) H2.out).mono ?_; (repeat (first | with_reducible exact HKN.out | with_reducible refine Keeps.setCell ?_ hng _ | with_reducible refine Keeps.alloc ?_ _ | with_reducible refine Keeps.drew ?_)); rintro e u ⟨rfl, hk⟩; have HKM := Lib.hid (Keeps.trans (show Keeps w1 _ by repeat (first | with_reducible exact HKN.out | with_reducible refine Keeps.setCell ?_ hng _ | with_reducible refine Keeps.alloc ?_ _ | with_reducible refine Keeps.drew ?_)) hk); (first | with_reducible have HNB := Lib.hid (HNB.out.keeps hk) | (with_reducible have HNB := Lib.hid (Box.keeps (Box.new _ 23 #[.int .i64 0, .int .i64 0, .int .i64 0, .int .i64 0, .int .i64 0]) hk); have hng := HKN.out.size) | (with_reducible have HNB := Lib.hid (Box.keeps (Box.keeps (Box.new _ 23 #[.int .i64 0, .int .i64 0, .int .i64 0, .int .i64 0, .int .i64 0]) ((Keeps.refl _).drew)) hk); have hng := HKN.out.size) | skip); (try clear g0 g1 g2 g3 g4 gf gl); (first | (have hnb := HNB.out; have g0 := hnb.cell 0 _ rfl; have g1 := hnb.cell 1 _ rfl; have g2 := hnb.cell 2 _ rfl; have g3 := hnb.cell 3 _ rfl; have g4 := hnb.cell 4 _ rfl; have gf := hnb.frozen; have gl := hnb.lt; clear hnb) | skip); clear hk HKN; have HKN := HKM; clear HKM) | (go_at_call 67; with_reducible refine (rfield_any ⟨bs.length, a, (bs.length + 7) / 8, cap, pack bs⟩ bs 13 3 v3 13 3 _ (by decide) (by decide) (HX1.out.keeps ?_) (by decide) (by have := HL.out; omega) H3.out).mono ?_; (repeat (first | with_reducible exact HKN.out | with_reducible refine Keeps.setCell ?_ hng _ | with_reducible refine Keeps.alloc ?_ _ | with_reducible refine Keeps.drew ?_)); rintro e u ⟨rfl, hk⟩; have HKM := Lib.hid (Keeps.trans (show Keeps w1 _ by repeat (first | with_reducible exact HKN.out | with_reducible refine Keeps.setCell ?_ hng _ | with_reducible refine Keeps.alloc ?_ _ | with_reducible refine Keeps.drew ?_)) hk); (first | with_reducible have HNB := Lib.hid (HNB.out.keeps hk) | (with_reducible have HNB := Lib.hid (Box.keeps (Box.new _ 23 #[.int .i64 0, .int .i64 0, .int .i64 0, .int .i64 0, .int .i64 0]) hk); have hng := HKN.out.size) | (with_reducible have HNB := Lib.hid (Box.keeps (Box.keeps (Box.new _ 23 #[.int .i64 0, .int .i64 0, .int .i64 0, .int .i64 0, .int .i64 0]) ((Keeps.refl _).drew)) hk); have hng := HKN.out.size) | skip); (try clear g0 g1 g2 g3 g4 gf gl); (first | (have hnb := HNB.out; have g0 := hnb.cell 0 _ rfl; have g1 := hnb.cell 1 _ rfl; have g2 := hnb.cell 2 _ rfl; have g3 := hnb.cell 3 _ rfl; have g4 := hnb.cell 4 _ rfl; have gf := hnb.frozen; have gl := hnb.lt; clear hnb) | skip); clear hk HKN; have HKN := HKM; clear HKM) | (go_at_call 67; with_reducible refine (rfield_any ⟨bs.length, a, (bs.length + 7) / 8, cap, pack bs⟩ bs 16 8 v4 16 8 _ (by decide) (by decide) (HX1.out.keeps ?_) (by decide) (by have := HL.out; omega) H4.out).mono ?_; (repeat (first | with_reducible exact HKN.out | with_reducible refine Keeps.setCell ?_ hng _ | with_reducible refine Keeps.alloc ?_ _ | with_reducible refine Keeps.drew ?_)); rintro e u ⟨rfl, hk⟩; have HKM := Lib.hid (Keeps.trans (show Keeps w1 _ by repeat (first | with_reducible exact HKN.out | with_reducible refine Keeps.setCell ?_ hng _ | with_reducible refine Keeps.alloc ?_ _ | with_reducible refine Keeps.drew ?_)) hk); (first | with_reducible have HNB := Lib.hid (HNB.out.keeps hk) | (with_reducible have HNB := Lib.hid (Box.keeps (Box.new _ 23 #[.int .i64 0, .int .i64 0, .int .i64 0, .int .i64 0, .int .i64 0]) hk); have hng := HKN.out.size) | (with_reducible have HNB := Lib.hid (Box.keeps (Box.keeps (Box.new _ 23 #[.int .i64 0, .int .i64 0, .int .i64 0, .int .i64 0, .int .i64 0]) ((Keeps.refl _).drew)) hk); have hng := HKN.out.size) | skip); (try clear g0 g1 g2 g3 g4 gf gl); (first | (have hnb := HNB.out; have g0 := hnb.cell 0 _ rfl; have g1 := hnb.cell 1 _ rfl; have g2 := hnb.cell 2 _ rfl; have g3 := hnb.cell 3 _ rfl; have g4 := hnb.cell 4 _ rfl; have gf := hnb.frozen; have gl := hnb.lt; clear hnb) | skip); clear hk HKN; have HKN := HKM; clear HKM))
    all_goals
      go_wp2_with fail
      go_meet
      first
        | with_reducible exact ⟨_, rfl, Lib.hid (Box.new _ _ _), HKN.out.size, Lib.hid (HKN.out.alloc _)⟩
        | exact ⟨_, rfl, Lib.hid (Box.putP (Box.putP (Box.putP (Box.putP (Box.putP HNB.out 0 _) 1 _) 2 _) 3 _) 4 _), hng, Lib.hid (((((HKN.out.setCell hng _).setCell hng _).setCell hng _).setCell hng _).setCell hng _)⟩
  case rest =>
    obtain ⟨g, rfl, HG, hg, HKC⟩ := hcut
    have g0 := HG.out.cell 0 _ rfl
    have g1 := HG.out.cell 1 _ rfl
    have g2 := HG.out.cell 2 _ rfl
    have g3 := HG.out.cell 3 _ rfl
    have g4 := HG.out.cell 4 _ rfl
    have hgl := HG.out.lt
    have HZC := Lib.hid (HZ.out.keeps HKC.out)
    have HKW := Lib.hid (HK.out.trans HKC.out)
    clear a0 a1
    go_wp2_with fail
    cases r
    · with_reducible refine (rccheck_no ⟨v0, v1, v2, v3, v4⟩ _ HR.out).mono ?_
      rintro e w4 ⟨rfl, hk4⟩
      have HZ4 := Lib.hid (HZC.out.keeps hk4)
      have HK4 := Lib.hid (HKW.out.trans hk4)
      have z0 := HZ4.out.cell 0 _ rfl
      have z1 := HZ4.out.cell 1 _ rfl
      have z2 := HZ4.out.cell 2 _ rfl
      have z3 := HZ4.out.cell 3 _ rfl
      have z4 := HZ4.out.cell 4 _ rfl
      have zf := HZ4.out.frozen
      clear hk4
      go_wp2_with fail
      refine bodyPost_ret (by simp [results, Try.results17, go_sem, CS.zero, *]) rfl ⟨rfl, ((((HK4.out.setCell (by simp) _).setCell (by simp) _).setCell (by simp) _).setCell (by simp) _).setCell (by simp) _⟩
    · with_reducible refine (rccheck_ok ⟨v0, v1, v2, v3, v4⟩ _ HR.out).mono ?_
      rintro e w4 ⟨rfl, hk4⟩
      have HZ4 := Lib.hid (HZC.out.keeps hk4)
      have HK4 := Lib.hid (HKW.out.trans hk4)
      have HC4 := HG.out.keeps hk4
      have c0 := HC4.cell 0 _ rfl
      have c1 := HC4.cell 1 _ rfl
      have c2 := HC4.cell 2 _ rfl
      have c3 := HC4.cell 3 _ rfl
      have c4 := HC4.cell 4 _ rfl
      have z0 := HZ4.out.cell 0 _ rfl
      have z1 := HZ4.out.cell 1 _ rfl
      have z2 := HZ4.out.cell 2 _ rfl
      have z3 := HZ4.out.cell 3 _ rfl
      have z4 := HZ4.out.cell 4 _ rfl
      have zf := HZ4.out.frozen
      have hzl := HZ4.out.lt
      clear hk4 HC4
      go_wp2_with fail
      refine bodyPost_ret (by simp [results, Try.results17, go_sem, *]) rfl ⟨rfl, ((((HK4.out.setCell (by simp) _).setCell (by simp) _).setCell (by simp) _).setCell (by simp) _).setCell (by simp) _⟩
theorem rcparse_any (x : RB) (w : World) (hx : x.In w) : Calls Try.prog 17 #[x.val] w fun e w' => e = .returned (.tuple #[(cparseRes x).1.val, .int .i64 (cparseRes x).2]) ∧ Keeps w w' := by
  unfold cparseRes
  cases hc : chk x.n x.l
  · exact rcparse_bad x w hx hc
  · have hi := hx.is hc
    rw [if_pos rfl]
    by_cases hl : x.bits.length = 24
    · cases hr : csOk (csOf x.bits) 8
      · rw [cparse_may hl hr]; exact rcparse_at x x.bits w hi hl false hr
      · rw [cparse_ok hl hr]; exact rcparse_at x x.bits w hi hl true hr
    · rw [cparse_long hl]; exact rcparse_long' x x.bits w hi hl
end Go.Proofs.Ytdjbalaicfienaa
