/- The walk of MedlBack. -/
import Derived.Test.YtmjodcackmjllaaQ12
import Derived.Test.YtmjodcackmjllaaQ16
import Derived.Test.YtmjodcackmjllaaH2
import Derived.Test.YtmjodcackmjllaaN7
namespace Go.Proofs.Ytmjodcackmjllaa
open Go.RowKit Go.Shelf
set_option linter.unusedVariables false
set_option linter.unusedSimpArgs false
set_option maxRecDepth 100000 in
set_option maxHeartbeats 4000000 in
theorem medlBack_any (m : RMedl) (a : Option Addr) (cap : Nat) (l : List Nat) (w : World) (hm : m.In w) (hy : YB w a cap l) :
    Calls Try.prog 13 #[m.val, .slice a l.length cap] w fun e w' => e = .returned (.bool true) ∧ Keeps w w' := by
  have HY := Lib.hid hy
  have HMI : Hid (∀ u, Keeps w u → m.In u) := Lib.hid (fun u h => hm.keeps h)
  have HB1 : Hid (∀ u, m.In u → Calls Try.prog 49 #[m.val] u fun e w' => ∃ v, e = .returned (.tuple #[v, .int .i64 (medlErr m)]) ∧ Own w' u.heap.size 5 v (u8s (bytesRes m)) ∧ Keeps u w') := Lib.hid (fun u h => mbytes_any m u h)
  obtain ⟨ca, cc, hcv, -, -, -⟩ := hm.c.shape
  obtain ⟨mm, hmm⟩ : ∃ mm : RMedl, mm = m := ⟨_, rfl⟩
  have HMM := Lib.hid hmm
  rw [← hmm] at HB1 HMI
  have hmv : mm.val = m.val := by rw [hmm]
  rw [hmv] at HB1
  clear hm hy hmm
  obtain ⟨no, sl, ga, wi, dr, de, cv, cs, ma, mn, mc, xs⟩ := m
  simp only at hcv
  subst hcv
  have HMV : Hid (mm.val = .agg #[.int .i64 no, .int .i64 sl, .int .i64 ga, .int .i64 wi, .int .i64 dr, .int .i64 de, .slice ca cs.length cc, .slice ma mn mc]) := Lib.hid hmv
  clear hmv
  replace HB1 : Hid (∀ u, mm.In u → Calls Try.prog 49 #[.agg #[.int .i64 no, .int .i64 sl, .int .i64 ga, .int .i64 wi, .int .i64 dr, .int .i64 de, .slice ca cs.length cc, .slice ma mn mc]] u fun e w' => ∃ v, e = .returned (.tuple #[v, .int .i64 (medlErr mm)]) ∧ Own w' u.heap.size 5 v (u8s (bytesRes mm)) ∧ Keeps u w') := HB1
  show Calls Try.prog 13 #[.agg #[.int .i64 no, .int .i64 sl, .int .i64 ga, .int .i64 wi, .int .i64 dr, .int .i64 de, .slice ca cs.length cc, .slice ma mn mc], .slice a l.length cap] w _
  have HK := Lib.hid ((Keeps.refl w).alloc (.cells #[.int .i64 no, .int .i64 sl, .int .i64 ga, .int .i64 wi, .int .i64 dr, .int .i64 de, .slice ca cs.length cc, .slice ma mn mc] 25))
  have HBX := Lib.hid (Box.new w 25 #[.int .i64 no, .int .i64 sl, .int .i64 ga, .int .i64 wi, .int .i64 dr, .int .i64 de, .slice ca cs.length cc, .slice ma mn mc])
  clear HMM
  go_enter Try.func13, Try.ntmps13
  go_wp2_with fail
  (with_reducible refine (begun7_any _).mono ?_)
  rintro e w0 ⟨rfl, hk0⟩
  replace HK := Lib.hid (HK.out.trans hk0)
  replace HBX := Lib.hid (HBX.out.keeps hk0)
  clear hk0
  have m0 := HBX.out.cell 0 _ rfl
  have m1 := HBX.out.cell 1 _ rfl
  have m2 := HBX.out.cell 2 _ rfl
  have m3 := HBX.out.cell 3 _ rfl
  have m4 := HBX.out.cell 4 _ rfl
  have m5 := HBX.out.cell 5 _ rfl
  have m6 := HBX.out.cell 6 _ rfl
  have m7 := HBX.out.cell 7 _ rfl
  have ml := HBX.out.lt
  go_wp2_with fail
  (with_reducible refine (HB1.out _ (by exact HMI.out _ HK.out)).mono ?_)
  rintro e w1 ⟨v1, rfl, ho1, hk1⟩
  replace HK := Lib.hid (HK.out.trans hk1)
  replace HBX := Lib.hid (HBX.out.keeps hk1)
  clear m0 m1 m2 m3 m4 m5 m6 m7 ml hk1 HB1
  cases hok : medlOk mm
  · rw [medlErr_70 hok]
    clear hok ho1 HBX HMI HMV
    go_wp2_with fail
    (with_reducible refine (parse_all a cap l _ (by exact HY.out.keeps HK.out)).mono ?_)
    rintro e w8 ⟨⟨q0, q1, q2, q3, q4, q5, qv, qcs, qa, qn, qc, qxs⟩, he, hqi, hqs, hk8⟩
    have he2 : e = .returned (.tuple #[.agg #[.int .i64 q0, .int .i64 q1, .int .i64 q2, .int .i64 q3, .int .i64 q4, .int .i64 q5, qv, .slice qa qn qc], .int .i64 (parseErr l)]) := he
    subst he2
    clear he
    obtain ⟨qca, qcc, hqv, -, -, -⟩ := id hqi.c.shape
    simp only at hqv
    subst hqv
    replace HK := Lib.hid ((HK.out.trans hk8).alloc (.cells #[.int .i64 q0, .int .i64 q1, .int .i64 q2, .int .i64 q3, .int .i64 q4, .int .i64 q5, .slice qca qcs.length qcc, .slice qa qn qc] 25))
    have HQX := Lib.hid (Box.new w8 25 #[.int .i64 q0, .int .i64 q1, .int .i64 q2, .int .i64 q3, .int .i64 q4, .int .i64 q5, .slice qca qcs.length qcc, .slice qa qn qc])
    have HQI := Lib.hid (hqi.keeps ((Keeps.refl w8).alloc (.cells #[.int .i64 q0, .int .i64 q1, .int .i64 q2, .int .i64 q3, .int .i64 q4, .int .i64 q5, .slice qca qcs.length qcc, .slice qa qn qc] 25)))
    have HQS := Lib.hid hqs
    clear hqi hqs hk8
    cases hg : goodP l
    · have hpe : parseErr l = 71 := by unfold parseErr; rw [hg]; rfl
      rw [hpe]
      clear hpe hg
      go_wp2_with fail
      go_ret
      exact ⟨rfl, HK.out⟩
    · have hpe : parseErr l = 0 := by unfold parseErr; rw [hg]; rfl
      have hpp : parsed l = pMedl l := by unfold parsed; rw [hg]; rfl
      obtain ⟨-, hok2, hbb⟩ := (goodP_iff l).1 hg
      have hsq := HQS.out
      rw [hpp] at hsq
      have HBQ : Hid (∀ u, RMedl.In ⟨q0, q1, q2, q3, q4, q5, .slice qca qcs.length qcc, qcs, qa, qn, qc, qxs⟩ u → Calls Try.prog 49 #[.agg #[.int .i64 q0, .int .i64 q1, .int .i64 q2, .int .i64 q3, .int .i64 q4, .int .i64 q5, .slice qca qcs.length qcc, .slice qa qn qc]] u fun e w' => ∃ v, e = .returned (.tuple #[v, .int .i64 0]) ∧ Own w' u.heap.size 5 v (u8s l) ∧ Keeps u w') := Lib.hid (fun u h => by
        have := mbytes_any _ u h
        rw [same_err hsq, medlErr_yes hok2, same_res hsq, show bytesRes (pMedl l) = l by unfold bytesRes; rw [hok2]; exact hbb] at this
        exact this)
      rw [hpe]
      clear hpe hpp hok2 hbb hsq hg HQS
      have lq0 := HQX.out.cell 0 _ rfl
      have lq1 := HQX.out.cell 1 _ rfl
      have lq2 := HQX.out.cell 2 _ rfl
      have lq3 := HQX.out.cell 3 _ rfl
      have lq4 := HQX.out.cell 4 _ rfl
      have lq5 := HQX.out.cell 5 _ rfl
      have lq6 := HQX.out.cell 6 _ rfl
      have lq7 := HQX.out.cell 7 _ rfl
      have lql := HQX.out.lt
      go_wp2_with fail
      (with_reducible refine (HBQ.out _ (by exact HQI.out)).mono ?_)
      rintro e w9 ⟨v9, rfl, ho9, hk9⟩
      replace HK := Lib.hid (HK.out.trans hk9)
      obtain ⟨a9, c9, hv9, -, -, hr9⟩ := ho9.shape
      rw [u8s_len] at hv9 hr9
      subst hv9
      have HR9 := Lib.hid hr9
      clear hk9 ho9 hr9 HQX HQI HBQ lq0 lq1 lq2 lq3 lq4 lq5 lq6 lq7 lql
      go_wp2_with fail
      (with_reducible refine (beq_any a9 a c9 cap l l _ (by exact HR9.out) (by exact (HY.out.keeps HK.out).row) HY.out.byte HY.out.byte).mono ?_)
      rw [decide_eq_true rfl]
      rintro e wz ⟨rfl, rfl⟩
      go_wp2_with fail
      go_ret
      exact ⟨rfl, HK.out⟩

  · have hF := medlOk_fit hok
    have hres : bytesRes mm = medlBytes mm := by unfold bytesRes; rw [hok]; rfl
    rw [hres] at ho1
    rw [medlErr_yes hok]
    obtain ⟨a1, c1, hv1, hc1, hc2, hr1⟩ := ho1.shape
    rw [u8s_len] at hv1 hc1 hr1
    subst hv1
    have hl1 : (medlBytes mm).length ≤ 140737488355328 := by
      rw [medlBytes_len hF]
      have := hF.n2; have := hF.x2
      have : mm.xs.length * (mm.nodes.toNat + 2) ≤ 4 * 10 := Nat.mul_le_mul (by omega) (by omega)
      omega
    have HY1 : Hid (YB w1 a1 c1 (medlBytes mm)) := Lib.hid ⟨hr1, hc1, hc2, hl1, medlBytes_lt hF⟩
    have hpe1 : parseErr (medlBytes mm) = 0 := by unfold parseErr; rw [good_back hok]; rfl
    have hpp1 : parsed (medlBytes mm) = pMedl (medlBytes mm) := by unfold parsed; rw [good_back hok]; rfl
    have HPB := Lib.hid (parse_back hok)
    rw [← hpp1] at HPB
    obtain ⟨L1, hL1⟩ : ∃ L1, L1 = medlBytes mm := ⟨_, rfl⟩
    rw [← hL1] at HY1 hpe1 HPB ⊢
    clear hL1 hF hres ho1 hc1 hc2 hr1 hl1 hpp1 hok
    go_wp2_with fail
    (with_reducible refine (parse_all a1 c1 L1 _ (by exact HY1.out)).mono ?_)
    rintro e w3 ⟨⟨p0, p1, p2, p3, p4, p5, pv, pcs, pa, pn, pc, pxs⟩, he, hpi, hps, hk3⟩
    rw [hpe1] at he
    have he2 : e = .returned (.tuple #[.agg #[.int .i64 p0, .int .i64 p1, .int .i64 p2, .int .i64 p3, .int .i64 p4, .int .i64 p5, pv, .slice pa pn pc], .int .i64 0]) := he
    subst he2
    clear he hpe1
    obtain ⟨pca, pcc, hpv, -, -, -⟩ := id hpi.c.shape
    simp only at hpv
    subst hpv
    have hsm : sameL ⟨p0, p1, p2, p3, p4, p5, .slice pca pcs.length pcc, pcs, pa, pn, pc, pxs⟩ mm = true := sameL_trans hps HPB.out
    replace HK := Lib.hid ((HK.out.trans hk3).alloc (.cells #[.int .i64 p0, .int .i64 p1, .int .i64 p2, .int .i64 p3, .int .i64 p4, .int .i64 p5, .slice pca pcs.length pcc, .slice pa pn pc] 25))
    replace HBX := Lib.hid ((HBX.out.keeps hk3).next (.cells #[.int .i64 p0, .int .i64 p1, .int .i64 p2, .int .i64 p3, .int .i64 p4, .int .i64 p5, .slice pca pcs.length pcc, .slice pa pn pc] 25))
    have HPX := Lib.hid (Box.new w3 25 #[.int .i64 p0, .int .i64 p1, .int .i64 p2, .int .i64 p3, .int .i64 p4, .int .i64 p5, .slice pca pcs.length pcc, .slice pa pn pc])
    have HPI := Lib.hid (hpi.keeps ((Keeps.refl w3).alloc (.cells #[.int .i64 p0, .int .i64 p1, .int .i64 p2, .int .i64 p3, .int .i64 p4, .int .i64 p5, .slice pca pcs.length pcc, .slice pa pn pc] 25)))
    have HS4 : Hid (∀ u, RMedl.In ⟨p0, p1, p2, p3, p4, p5, .slice pca pcs.length pcc, pcs, pa, pn, pc, pxs⟩ u → mm.In u → Calls Try.prog 33 #[.agg #[.int .i64 p0, .int .i64 p1, .int .i64 p2, .int .i64 p3, .int .i64 p4, .int .i64 p5, .slice pca pcs.length pcc, .slice pa pn pc], .agg #[.int .i64 no, .int .i64 sl, .int .i64 ga, .int .i64 wi, .int .i64 dr, .int .i64 de, .slice ca cs.length cc, .slice ma mn mc]] u fun e w'' => e = .returned (.bool true) ∧ Keeps u w'') := Lib.hid (fun w' h1 h2 => by
      have h := rsame7_any _ _ w' h1 h2
      rw [hsm, HMV.out] at h
      exact h)
    clear hk3 hpi hps hsm HPB HY1
    have lp0 := HPX.out.cell 0 _ rfl
    have lp1 := HPX.out.cell 1 _ rfl
    have lp2 := HPX.out.cell 2 _ rfl
    have lp3 := HPX.out.cell 3 _ rfl
    have lp4 := HPX.out.cell 4 _ rfl
    have lp5 := HPX.out.cell 5 _ rfl
    have lp6 := HPX.out.cell 6 _ rfl
    have lp7 := HPX.out.cell 7 _ rfl
    have lpl := HPX.out.lt
    have lm0 := HBX.out.cell 0 _ rfl
    have lm1 := HBX.out.cell 1 _ rfl
    have lm2 := HBX.out.cell 2 _ rfl
    have lm3 := HBX.out.cell 3 _ rfl
    have lm4 := HBX.out.cell 4 _ rfl
    have lm5 := HBX.out.cell 5 _ rfl
    have lm6 := HBX.out.cell 6 _ rfl
    have lm7 := HBX.out.cell 7 _ rfl
    have lml := HBX.out.lt
    go_wp2_with fail
    (with_reducible refine (HS4.out _ (by exact HPI.out) (by exact HMI.out _ HK.out)).mono ?_)
    rintro e w4 ⟨rfl, hk4⟩
    replace HK := Lib.hid (HK.out.trans hk4)
    clear hk4 HS4 HPI HPX HBX HMI HMV lp0 lp1 lp2 lp3 lp4 lp5 lp6 lp7 lpl lm0 lm1 lm2 lm3 lm4 lm5 lm6 lm7 lml
    go_wp2_with fail
    (with_reducible refine (parse_all a cap l _ (by exact HY.out.keeps HK.out)).mono ?_)
    rintro e w8 ⟨⟨q0, q1, q2, q3, q4, q5, qv, qcs, qa, qn, qc, qxs⟩, he, hqi, hqs, hk8⟩
    have he2 : e = .returned (.tuple #[.agg #[.int .i64 q0, .int .i64 q1, .int .i64 q2, .int .i64 q3, .int .i64 q4, .int .i64 q5, qv, .slice qa qn qc], .int .i64 (parseErr l)]) := he
    subst he2
    clear he
    obtain ⟨qca, qcc, hqv, -, -, -⟩ := id hqi.c.shape
    simp only at hqv
    subst hqv
    replace HK := Lib.hid ((HK.out.trans hk8).alloc (.cells #[.int .i64 q0, .int .i64 q1, .int .i64 q2, .int .i64 q3, .int .i64 q4, .int .i64 q5, .slice qca qcs.length qcc, .slice qa qn qc] 25))
    have HQX := Lib.hid (Box.new w8 25 #[.int .i64 q0, .int .i64 q1, .int .i64 q2, .int .i64 q3, .int .i64 q4, .int .i64 q5, .slice qca qcs.length qcc, .slice qa qn qc])
    have HQI := Lib.hid (hqi.keeps ((Keeps.refl w8).alloc (.cells #[.int .i64 q0, .int .i64 q1, .int .i64 q2, .int .i64 q3, .int .i64 q4, .int .i64 q5, .slice qca qcs.length qcc, .slice qa qn qc] 25)))
    have HQS := Lib.hid hqs
    clear hqi hqs hk8
    cases hg : goodP l
    · have hpe : parseErr l = 71 := by unfold parseErr; rw [hg]; rfl
      rw [hpe]
      clear hpe hg
      go_wp2_with fail
      go_ret
      exact ⟨rfl, HK.out⟩
    · have hpe : parseErr l = 0 := by unfold parseErr; rw [hg]; rfl
      have hpp : parsed l = pMedl l := by unfold parsed; rw [hg]; rfl
      obtain ⟨-, hok2, hbb⟩ := (goodP_iff l).1 hg
      have hsq := HQS.out
      rw [hpp] at hsq
      have HBQ : Hid (∀ u, RMedl.In ⟨q0, q1, q2, q3, q4, q5, .slice qca qcs.length qcc, qcs, qa, qn, qc, qxs⟩ u → Calls Try.prog 49 #[.agg #[.int .i64 q0, .int .i64 q1, .int .i64 q2, .int .i64 q3, .int .i64 q4, .int .i64 q5, .slice qca qcs.length qcc, .slice qa qn qc]] u fun e w' => ∃ v, e = .returned (.tuple #[v, .int .i64 0]) ∧ Own w' u.heap.size 5 v (u8s l) ∧ Keeps u w') := Lib.hid (fun u h => by
        have := mbytes_any _ u h
        rw [same_err hsq, medlErr_yes hok2, same_res hsq, show bytesRes (pMedl l) = l by unfold bytesRes; rw [hok2]; exact hbb] at this
        exact this)
      rw [hpe]
      clear hpe hpp hok2 hbb hsq hg HQS
      have lq0 := HQX.out.cell 0 _ rfl
      have lq1 := HQX.out.cell 1 _ rfl
      have lq2 := HQX.out.cell 2 _ rfl
      have lq3 := HQX.out.cell 3 _ rfl
      have lq4 := HQX.out.cell 4 _ rfl
      have lq5 := HQX.out.cell 5 _ rfl
      have lq6 := HQX.out.cell 6 _ rfl
      have lq7 := HQX.out.cell 7 _ rfl
      have lql := HQX.out.lt
      go_wp2_with fail
      (with_reducible refine (HBQ.out _ (by exact HQI.out)).mono ?_)
      rintro e w9 ⟨v9, rfl, ho9, hk9⟩
      replace HK := Lib.hid (HK.out.trans hk9)
      obtain ⟨a9, c9, hv9, -, -, hr9⟩ := ho9.shape
      rw [u8s_len] at hv9 hr9
      subst hv9
      have HR9 := Lib.hid hr9
      clear hk9 ho9 hr9 HQX HQI HBQ lq0 lq1 lq2 lq3 lq4 lq5 lq6 lq7 lql
      go_wp2_with fail
      (with_reducible refine (beq_any a9 a c9 cap l l _ (by exact HR9.out) (by exact (HY.out.keeps HK.out).row) HY.out.byte HY.out.byte).mono ?_)
      rw [decide_eq_true rfl]
      rintro e wz ⟨rfl, rfl⟩
      go_wp2_with fail
      go_ret
      exact ⟨rfl, HK.out⟩

end Go.Proofs.Ytmjodcackmjllaa
