/- The walk of GuardianPasses. -/
import Derived.Test.YtcophhdlcjemeaaT13
import Derived.Test.YtcophhdlcjemeaaM15
import Derived.Deep.RegionHeld3
import Derived.Deep.DeepCutAuto
namespace Go.Proofs.Ytcophhdlcjemeaa
open Go.RowKit
set_option linter.unusedVariables false
set_option linter.unusedSimpArgs false
set_option maxRecDepth 100000 in
set_option maxHeartbeats 2000000 in
theorem guardianPasses_any (o1 o2 : Int) (a : Option Addr) (n cap : Nat) (xs : List RSig) (w : World) (hx : RSs w a n cap xs) :
    Calls Try.prog 9 #[.agg #[.int .i64 o1, .int .i64 o2], .slice a n cap] w fun e w' => e = .returned (.bool true) ∧ Keeps w w' := by
  have hcap := hx.hcap
  have hmax := hx.hmax
  have HX := Lib.hid (hx.take (min n 60) (Nat.min_le_left _ _))
  clear hx
  have hm : min n 60 ≤ 60 := Nat.min_le_right _ _
  have HB := Lib.hid (Box.new w 30 #[.int .i64 o1, .int .i64 o2])
  have HK := Lib.hid ((Keeps.refl w).alloc (.cells #[.int .i64 o1, .int .i64 o2] 30))
  go_enter Try.func9, Try.ntmps9
  go_wp2_with fail
  (with_reducible refine (few20_any a n cap _ hcap hmax).mono ?_)
  rintro e w1 ⟨rfl, rfl⟩
  have hcap : min n 60 ≤ cap := by omega
  obtain ⟨m, hmm⟩ : ∃ m, m = min n 60 := ⟨_, rfl⟩
  rw [← hmm] at HX hm hcap ⊢
  clear hmm
  obtain ⟨zs, hz⟩ : ∃ zs, zs = xs.take m := ⟨_, rfl⟩
  rw [← hz] at HX
  clear hz
  have hm63 : m ≤ 9223372036854775807 := by omega
  have HKN := Lib.hid (Keeps.refl (w.alloc (.cells #[.int .i64 o1, .int .i64 o2] 30)))
  obtain ⟨W1, hW1⟩ : ∃ W1, W1 = w.alloc (.cells #[.int .i64 o1, .int .i64 o2] 30) := ⟨_, rfl⟩
  rw [← hW1] at HB HK HKN ⊢
  clear hW1
  have b0 : W1.cell? ⟨w.heap.size, 0, none⟩ = some (.int .i64 o1) := HB.out.cell 0 _ rfl
  have b1 : W1.cell? ⟨w.heap.size, 1, none⟩ = some (.int .i64 o2) := HB.out.cell 1 _ rfl
  have bl := HB.out.lt
  have HXW := Lib.hid (HX.out.keeps HK.out)
  have HLEN := Lib.hid (fun (ys : List RSig) (h : ys.map RSig.p = zs.filterMap (passP o1 o2)) => (show ys.length ≤ 60 by
    have h1 := congrArg List.length h
    have h2 := List.length_filterMap_le (passP o1 o2) zs
    rw [List.length_map] at h1
    have h3 := HX.out.len
    omega))
  go_upto_region 2 with fail
  go_cut [24] (fun v wx => v = .bool false ∧ Hid (Keeps W1 wx))
  case first =>
    clear HX HB HK
    go_region_held3 (fun w' => w'.cell? ⟨w.heap.size, 0, none⟩ = some (.int .i64 o1) ∧ w'.cell? ⟨w.heap.size, 1, none⟩ = some (.int .i64 o2))
      ((refine ⟨Keeps.later (a := W1) ?_ b0, Keeps.later (a := W1) ?_ b1⟩ <;> repeat (first | with_reducible exact HKN.out | with_reducible refine Keeps.drew ?_)))
      (first
        | (go_at_call 14; (with_reducible refine (begun20_any _).mono ?_); rintro e u ⟨rfl, hk⟩; have HKM := Lib.hid (Keeps.trans (show Keeps W1 _ by repeat (first | with_reducible exact HKN.out | with_reducible refine Keeps.drew ?_)) hk); clear hk HKN; have HKN := HKM; clear HKM)
        | (go_at_call 51; (with_reducible refine (all_any o1 o2 a m cap zs _ (HXW.out.keeps (by repeat (first | with_reducible exact HKN.out | with_reducible refine Keeps.drew ?_))) hm).mono ?_); rintro e u1 ⟨v, ys, rfl, ho, hp, hk⟩; have HKM := Lib.hid (Keeps.trans (show Keeps W1 _ by repeat (first | with_reducible exact HKN.out | with_reducible refine Keeps.drew ?_)) hk); clear hk HKN; have HKN := HKM; clear HKM; obtain ⟨a2, cap2, rfl, hrs⟩ := ho.shape; have HP := Lib.hid hp; have HR := Lib.hid hrs; clear ho hp hrs)
        | (go_at_call 52; (with_reducible refine (rall_any o1 o2 a m cap zs _ (HXW.out.keeps (by repeat (first | with_reducible exact HKN.out | with_reducible refine Keeps.drew ?_))) hm).mono ?_); rintro e u2 ⟨v, ys2, rfl, ho, hp, hk⟩; have HKM := Lib.hid (Keeps.trans (show Keeps W1 _ by repeat (first | with_reducible exact HKN.out | with_reducible refine Keeps.drew ?_)) hk); obtain ⟨a3, cap3, rfl, hrs⟩ := ho.shape; have HR2 := Lib.hid (HR.out.keeps (Keeps.trans (show Keeps u1 _ by repeat (first | with_reducible exact Keeps.refl _ | with_reducible refine Keeps.drew ?_)) hk)); clear hk HKN; have HKN := HKM; clear HKM;  have HP2 := Lib.hid hp; have HR3 := Lib.hid hrs; have HS := Lib.hid (show sigsSame ys ys2 = true from decide_eq_true (HP.out.trans HP2.out.symm)); clear ho hp hrs)
        | (go_at_call 50; (with_reducible refine (rsame20_any _ _ _ _ _ _ _ _ _ (HR2.out.keeps (by repeat (first | with_reducible exact Keeps.refl _ | with_reducible refine Keeps.drew ?_))) (HR3.out.keeps (by repeat (first | with_reducible exact Keeps.refl _ | with_reducible refine Keeps.drew ?_)))).mono ?_); rw [HS.out]; rintro e u3 ⟨rfl, hk⟩; have HKM := Lib.hid (Keeps.trans (show Keeps W1 _ by repeat (first | with_reducible exact HKN.out | with_reducible refine Keeps.drew ?_)) hk); clear hk HKN; have HKN := HKM; clear HKM))
    all_goals
      go_wp2_with fail
      go_meet
      exact ⟨rfl, HKN⟩
  case rest =>
    obtain ⟨rfl, HKC⟩ := hcut
    replace HX := Lib.hid (HXW.out.keeps HKC.out)
    replace HB := Lib.hid (HB.out.keeps HKC.out)
    replace HK := Lib.hid (HK.out.trans HKC.out)
    clear b0 b1 bl HXW HKN HKC HLEN
    go_wp2_with fail
    go_loopw [27] (fun i wr => ∃ k : Nat, k ≤ m ∧ i = .int .i64 k ∧ Hid (Box wr w.heap.size 30 #[.int .i64 o1, .int .i64 o2]) ∧ Hid (RSs wr a m cap zs) ∧ Hid (Keeps w wr)) (fun i _ => m - (intOf i).toNat)
    case atStart => exact ⟨0, Nat.zero_le _, rfl, HB, HX, HK⟩
    case round =>
      clear HB HX HK
      obtain ⟨k, hk, rfl, HB, HX, HK⟩ := hrel
      by_cases hlt : k < m
      case neg =>
        go_wp2_with fail
        go_ret
        exact ⟨rfl, HK.out⟩
      have hzl := HX.out.len
      obtain ⟨b, off, hab, hcell⟩ := HX.out.addr (by omega)
      subst hab
      have hk' : k < zs.length := by omega
      have hcell := hcell k hk'
      have HIN := Lib.hid (HX.out.isIn zs[k] (List.getElem_mem _))
      obtain ⟨y, hy⟩ : ∃ y, y = zs[k] := ⟨_, rfl⟩
      rw [← hy] at hcell HIN
      clear hy hk' hzl
      obtain ⟨fr, f, t, lv, bn, ba, blen, bcap, bls⟩ := y
      have c0 := hcell 0 _ rfl
      have c1 := hcell 1 _ rfl
      have c2 := hcell 2 _ rfl
      have c3 := hcell 3 _ rfl
      have c4 := hcell 4 _ rfl
      have c5 := hcell 5 _ rfl
      clear hcell
      simp only [Nat.add_zero] at c0
      simp only at HIN
      have HS := Lib.hid (Box.new wr 73 #[.int .i64 fr, .int .i64 f, .int .i64 t, .int .i64 lv, .int .i64 bn, .slice ba blen bcap])
      have hk1 := (Keeps.refl wr).alloc (.cells #[.int .i64 fr, .int .i64 f, .int .i64 t, .int .i64 lv, .int .i64 bn, .slice ba blen bcap] 73)
      have b0 := HB.out.cell 0 _ rfl
      have b1 := HB.out.cell 1 _ rfl
      have bl := HB.out.lt
      replace HB := Lib.hid (HB.out.keeps hk1)
      replace HX := Lib.hid (HX.out.keeps hk1)
      replace HIN := Lib.hid (HIN.out.keeps hk1)
      replace HK := Lib.hid (HK.out.trans hk1)
      clear hk1
      go_wp2_with fail
      (with_reducible refine (pass_any o1 o2 ⟨fr, f, t, lv, bn, ba, blen, bcap, bls⟩ _ (by exact HIN.out)).mono ?_)
      rintro e w1 ⟨r, is, rfl, hr, hk1⟩
      have HP1 := Lib.hid hr.p
      have HS1 := Lib.hid hr.is
      have HI1 := Lib.hid hr.isIn
      replace HB := Lib.hid (HB.out.keeps hk1)
      replace HX := Lib.hid (HX.out.keeps hk1)
      replace HIN := Lib.hid (HIN.out.keeps hk1)
      replace HS := Lib.hid (HS.out.keeps hk1)
      replace HK := Lib.hid (HK.out.trans hk1)
      clear hr hk1 c0 c1 c2 c3 c4 c5 b0 b1 bl
      obtain ⟨rfr, rf, rt, rlv, rbn, rba, rblen, rbcap, rbls⟩ := r
      simp only at HI1
      have HR1 := Lib.hid (Box.new w1 73 #[.int .i64 rfr, .int .i64 rf, .int .i64 rt, .int .i64 rlv, .int .i64 rbn, .slice rba rblen rbcap])
      have hk1 := (Keeps.refl w1).alloc (.cells #[.int .i64 rfr, .int .i64 rf, .int .i64 rt, .int .i64 rlv, .int .i64 rbn, .slice rba rblen rbcap] 73)
      replace HI1 := Lib.hid (HI1.out.keeps hk1)
      replace HB := Lib.hid (HB.out.keeps hk1)
      replace HX := Lib.hid (HX.out.keeps hk1)
      replace HIN := Lib.hid (HIN.out.keeps hk1)
      replace HS := Lib.hid (HS.out.keeps hk1)
      replace HK := Lib.hid (HK.out.trans hk1)
      clear hk1
      have b0 := HB.out.cell 0 _ rfl
      have b1 := HB.out.cell 1 _ rfl
      have bl := HB.out.lt
      have s0 := HS.out.cell 0 _ rfl
      have s1 := HS.out.cell 1 _ rfl
      have s2 := HS.out.cell 2 _ rfl
      have s3 := HS.out.cell 3 _ rfl
      have s4 := HS.out.cell 4 _ rfl
      have s5 := HS.out.cell 5 _ rfl
      have sl := HS.out.lt
      go_wp2_with fail
      (with_reducible refine (rpass_any o1 o2 ⟨fr, f, t, lv, bn, ba, blen, bcap, bls⟩ _ (by exact HIN.out)).mono ?_)
      rintro e w2 ⟨q, is2, rfl, hr, hk1⟩
      have HP2 := Lib.hid hr.p
      have HS2 := Lib.hid hr.is
      have HI2 := Lib.hid hr.isIn
      replace HI1 := Lib.hid (HI1.out.keeps hk1)
      replace HB := Lib.hid (HB.out.keeps hk1)
      replace HX := Lib.hid (HX.out.keeps hk1)
      replace HIN := Lib.hid (HIN.out.keeps hk1)
      replace HS := Lib.hid (HS.out.keeps hk1)
      replace HR1 := Lib.hid (HR1.out.keeps hk1)
      replace HK := Lib.hid (HK.out.trans hk1)
      clear hr hk1 b0 b1 bl s0 s1 s2 s3 s4 s5 sl
      obtain ⟨qfr, qf, qt, qlv, qbn, qba, qblen, qbcap, qbls⟩ := q
      simp only at HI2
      have HR2 := Lib.hid (Box.new w2 73 #[.int .i64 qfr, .int .i64 qf, .int .i64 qt, .int .i64 qlv, .int .i64 qbn, .slice qba qblen qbcap])
      have hk1 := (Keeps.refl w2).alloc (.cells #[.int .i64 qfr, .int .i64 qf, .int .i64 qt, .int .i64 qlv, .int .i64 qbn, .slice qba qblen qbcap] 73)
      replace HI1 := Lib.hid (HI1.out.keeps hk1)
      replace HI2 := Lib.hid (HI2.out.keeps hk1)
      replace HB := Lib.hid (HB.out.keeps hk1)
      replace HX := Lib.hid (HX.out.keeps hk1)
      replace HIN := Lib.hid (HIN.out.keeps hk1)
      replace HS := Lib.hid (HS.out.keeps hk1)
      replace HR1 := Lib.hid (HR1.out.keeps hk1)
      replace HK := Lib.hid (HK.out.trans hk1)
      clear hk1
      have r0 := HR1.out.cell 0 _ rfl
      have r1 := HR1.out.cell 1 _ rfl
      have r2 := HR1.out.cell 2 _ rfl
      have r3 := HR1.out.cell 3 _ rfl
      have r4 := HR1.out.cell 4 _ rfl
      have r5 := HR1.out.cell 5 _ rfl
      have rl := HR1.out.lt
      obtain rfl : is = is2 := HS1.out.trans HS2.out.symm
      have HSS : Hid (sigSame ⟨rfr, rf, rt, rlv, rbn, rba, rblen, rbcap, rbls⟩ ⟨qfr, qf, qt, qlv, qbn, qba, qblen, qbcap, qbls⟩ = true) := Lib.hid (by rw [sigSame_p]; exact decide_eq_true (HP1.out.trans HP2.out.symm))
      go_wp2_with fail
      (with_reducible refine (rsigsame_any ⟨rfr, rf, rt, rlv, rbn, rba, rblen, rbcap, rbls⟩ ⟨qfr, qf, qt, qlv, qbn, qba, qblen, qbcap, qbls⟩ _ (by exact HI1.out) (by exact HI2.out)).mono ?_)
      rw [HSS.out]
      rintro e w3 ⟨rfl, hk1⟩
      replace HB := Lib.hid (HB.out.keeps hk1)
      replace HX := Lib.hid (HX.out.keeps hk1)
      replace HK := Lib.hid (HK.out.trans hk1)
      clear hk1 r0 r1 r2 r3 r4 r5 rl
      go_wp2_with fail
      go_roundw
      case rel => exact ⟨k + 1, by omega, by go_num, HB, HX, HK⟩
      case measure => simp [intOf]; omega
end Go.Proofs.Ytcophhdlcjemeaa
