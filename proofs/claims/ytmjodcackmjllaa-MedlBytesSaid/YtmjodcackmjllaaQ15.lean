/- The walk of MedlBytes. -/
import Derived.Test.YtmjodcackmjllaaQ12
import Derived.Test.YtmjodcackmjllaaQ14
import Derived.Test.YtmjodcackmjllaaH2
import Derived.Test.YtmjodcackmjllaaN7
namespace Go.Proofs.Ytmjodcackmjllaa
open Go.RowKit Go.Shelf
set_option linter.unusedVariables false
set_option linter.unusedSimpArgs false
theorem sameL_both {a b c : RMedl} (h1 : sameL a c = true) (h2 : sameL b c = true) : sameL a b = true := by
  obtain ⟨a1, a2, a3, a4, a5, a6, a7, a8⟩ := (sameL_iff a c).1 h1
  obtain ⟨b1, b2, b3, b4, b5, b6, b7, b8⟩ := (sameL_iff b c).1 h2
  exact (sameL_iff a b).2 ⟨a1.trans b1.symm, a2.trans b2.symm, a3.trans b3.symm, a4.trans b4.symm, a5.trans b5.symm, a6.trans b6.symm, a7.trans b7.symm, a8.trans b8.symm⟩
theorem bytesRes_lt (m : RMedl) : ∀ x ∈ bytesRes m, x < 256 := by
  unfold bytesRes
  cases hok : medlOk m
  · intro x hx; cases hx
  · exact medlBytes_lt (medlOk_fit hok)
/-- bytes of any length -/
structure YB (w : World) (a : Option Addr) (cap : Nat) (l : List Nat) : Prop where
  row : RowV w a l.length (u8s l)
  hcap : l.length ≤ cap
  hmax : cap ≤ 9223372036854775807
  len : l.length ≤ 140737488355328
  byte : ∀ x ∈ l, x < 256
theorem YB.keeps {w w' : World} {a : Option Addr} {cap : Nat} {l : List Nat} (h : YB w a cap l) (hk : Keeps w w') : YB w' a cap l := ⟨h.row.keeps hk, h.hcap, h.hmax, h.len, h.byte⟩
theorem parse_all (a : Option Addr) (cap : Nat) (l : List Nat) (w : World) (h : YB w a cap l) : Calls Try.prog 51 #[.slice a l.length cap] w (ParsePost l w) := by
  by_cases h1 : 21 ≤ l.length ∧ l.length ≤ 512
  · exact parse_any a cap l w ⟨h.row, h.hcap, h.hmax, h1.2, h.byte⟩ h1.1
  · exact parse_short a cap l w h.len h1
set_option maxRecDepth 100000 in
set_option maxHeartbeats 4000000 in
theorem medlBytes_any (m : RMedl) (a : Option Addr) (cap : Nat) (l : List Nat) (w : World) (hm : m.In w) (hy : YB w a cap l) :
    Calls Try.prog 12 #[m.val, .slice a l.length cap] w fun e w' => e = .returned (.bool true) ∧ Keeps w w' := by
  have HM := Lib.hid hm
  have HY := Lib.hid hy
  have HB1 : Hid (∀ u, m.In u → Calls Try.prog 49 #[m.val] u fun e w' => ∃ v, e = .returned (.tuple #[v, .int .i64 (medlErr m)]) ∧ Own w' u.heap.size 5 v (u8s (bytesRes m)) ∧ Keeps u w') := Lib.hid (fun u h => mbytes_any m u h)
  have HB2 : Hid (∀ u, m.In u → Calls Try.prog 50 #[m.val] u fun e w' => ∃ v, e = .returned (.tuple #[v, .int .i64 (medlErr m)]) ∧ Own w' u.heap.size 5 v (u8s (bytesRes m)) ∧ Keeps u w') := Lib.hid (fun u h => rbytes_any m u h)
  have HL := Lib.hid (bytesRes_lt m)
  have HMI : Hid (∀ u, Keeps w u → m.In u) := Lib.hid (fun u h => hm.keeps h)
  obtain ⟨E, hE⟩ : ∃ E, E = medlErr m := ⟨_, rfl⟩
  obtain ⟨R, hR⟩ : ∃ R, R = bytesRes m := ⟨_, rfl⟩
  rw [← hE, ← hR] at HB1 HB2
  rw [← hR] at HL
  have dE : (E == E) = true := by simp
  obtain ⟨ca, cc, hcv, -, -, -⟩ := hm.c.shape
  clear hE hR hm hy HM
  obtain ⟨no, sl, ga, wi, dr, de, cv, cs, ma, mn, mc, xs⟩ := m
  simp only at hcv
  subst hcv
  show Calls Try.prog 12 #[.agg #[.int .i64 no, .int .i64 sl, .int .i64 ga, .int .i64 wi, .int .i64 dr, .int .i64 de, .slice ca cs.length cc, .slice ma mn mc], .slice a l.length cap] w _
  have HK := Lib.hid ((Keeps.refl w).alloc (.cells #[.int .i64 no, .int .i64 sl, .int .i64 ga, .int .i64 wi, .int .i64 dr, .int .i64 de, .slice ca cs.length cc, .slice ma mn mc] 25))
  have HBX := Lib.hid (Box.new w 25 #[.int .i64 no, .int .i64 sl, .int .i64 ga, .int .i64 wi, .int .i64 dr, .int .i64 de, .slice ca cs.length cc, .slice ma mn mc])
  go_enter Try.func12, Try.ntmps12
  go_wp2_with fail
  (with_reducible refine (HB1.out _ (by exact HMI.out _ HK.out)).mono ?_)
  rintro e w1 ⟨v1, rfl, ho1, hk1⟩
  replace HK := Lib.hid (HK.out.trans hk1)
  replace HBX := Lib.hid (HBX.out.keeps hk1)
  obtain ⟨a1, c1, hv1, -, -, hr1⟩ := ho1.shape
  rw [u8s_len] at hv1 hr1
  subst hv1
  have HR1 := Lib.hid hr1
  clear hk1 ho1 hr1
  have m0 := HBX.out.cell 0 _ rfl
  have m1 := HBX.out.cell 1 _ rfl
  have m2 := HBX.out.cell 2 _ rfl
  have m3 := HBX.out.cell 3 _ rfl
  have m4 := HBX.out.cell 4 _ rfl
  have m5 := HBX.out.cell 5 _ rfl
  have m6 := HBX.out.cell 6 _ rfl
  have m7 := HBX.out.cell 7 _ rfl
  have ml := HBX.out.lt
  go_wp2_with fail
  (with_reducible refine (HB2.out _ (by exact HMI.out _ HK.out)).mono ?_)
  rintro e w2 ⟨v2, rfl, ho2, hk2⟩
  replace HK := Lib.hid (HK.out.trans hk2)
  replace HR1 := Lib.hid (HR1.out.keeps hk2)
  obtain ⟨a2, c2, hv2, -, -, hr2⟩ := ho2.shape
  rw [u8s_len] at hv2 hr2
  subst hv2
  have HR2 := Lib.hid hr2
  clear hk2 ho2 hr2 HBX HB1 HB2 HMI m0 m1 m2 m3 m4 m5 m6 m7 ml
  go_wp2_with fail
  (with_reducible refine (parse_all a cap l _ (by exact HY.out.keeps HK.out)).mono ?_)
  rintro e w3 ⟨⟨p0, p1, p2, p3, p4, p5, pv, pcs, pa, pn, pc, pxs⟩, he, hpi, hps, hk3⟩
  have he2 : e = .returned (.tuple #[.agg #[.int .i64 p0, .int .i64 p1, .int .i64 p2, .int .i64 p3, .int .i64 p4, .int .i64 p5, pv, .slice pa pn pc], .int .i64 (parseErr l)]) := he
  subst he2
  clear he
  obtain ⟨pca, pcc, hpv, -, -, -⟩ := id hpi.c.shape
  simp only at hpv
  subst hpv
  replace HK := Lib.hid (HK.out.trans hk3)
  replace HR1 := Lib.hid (HR1.out.keeps hk3)
  replace HR2 := Lib.hid (HR2.out.keeps hk3)
  have HPX := Lib.hid (Box.new w3 25 #[.int .i64 p0, .int .i64 p1, .int .i64 p2, .int .i64 p3, .int .i64 p4, .int .i64 p5, .slice pca pcs.length pcc, .slice pa pn pc])
  have HPI := Lib.hid (hpi.keeps ((Keeps.refl w3).alloc (.cells #[.int .i64 p0, .int .i64 p1, .int .i64 p2, .int .i64 p3, .int .i64 p4, .int .i64 p5, .slice pca pcs.length pcc, .slice pa pn pc] 25)))
  replace HK := Lib.hid (HK.out.alloc (.cells #[.int .i64 p0, .int .i64 p1, .int .i64 p2, .int .i64 p3, .int .i64 p4, .int .i64 p5, .slice pca pcs.length pcc, .slice pa pn pc] 25))
  replace HR1 := Lib.hid (HR1.out.keeps ((Keeps.refl w3).alloc (.cells #[.int .i64 p0, .int .i64 p1, .int .i64 p2, .int .i64 p3, .int .i64 p4, .int .i64 p5, .slice pca pcs.length pcc, .slice pa pn pc] 25)))
  replace HR2 := Lib.hid (HR2.out.keeps ((Keeps.refl w3).alloc (.cells #[.int .i64 p0, .int .i64 p1, .int .i64 p2, .int .i64 p3, .int .i64 p4, .int .i64 p5, .slice pca pcs.length pcc, .slice pa pn pc] 25)))
  have HPS := Lib.hid hps
  clear hk3 hpi hps
  go_wp2_with fail
  (with_reducible refine (rparse_any a cap l _ (by exact HY.out.row.keeps HK.out) HY.out.hcap HY.out.hmax HY.out.byte).mono ?_)
  rintro e w4 ⟨⟨q0, q1, q2, q3, q4, q5, qv, qcs, qa, qn, qc, qxs⟩, he, hqi, hqs, hk4⟩
  have he2 : e = .returned (.tuple #[.agg #[.int .i64 q0, .int .i64 q1, .int .i64 q2, .int .i64 q3, .int .i64 q4, .int .i64 q5, qv, .slice qa qn qc], .int .i64 (parseErr l)]) := he
  subst he2
  clear he
  obtain ⟨qca, qcc, hqv, -, -, -⟩ := id hqi.c.shape
  simp only at hqv
  subst hqv
  have HSM := Lib.hid (sameL_both HPS.out hqs)
  replace HK := Lib.hid ((HK.out.trans hk4).alloc (.cells #[.int .i64 q0, .int .i64 q1, .int .i64 q2, .int .i64 q3, .int .i64 q4, .int .i64 q5, .slice qca qcs.length qcc, .slice qa qn qc] 25))
  replace HR1 := Lib.hid ((HR1.out.keeps hk4).keeps ((Keeps.refl w4).alloc (.cells #[.int .i64 q0, .int .i64 q1, .int .i64 q2, .int .i64 q3, .int .i64 q4, .int .i64 q5, .slice qca qcs.length qcc, .slice qa qn qc] 25)))
  replace HR2 := Lib.hid ((HR2.out.keeps hk4).keeps ((Keeps.refl w4).alloc (.cells #[.int .i64 q0, .int .i64 q1, .int .i64 q2, .int .i64 q3, .int .i64 q4, .int .i64 q5, .slice qca qcs.length qcc, .slice qa qn qc] 25)))
  replace HPX := Lib.hid ((HPX.out.keeps hk4).next (.cells #[.int .i64 q0, .int .i64 q1, .int .i64 q2, .int .i64 q3, .int .i64 q4, .int .i64 q5, .slice qca qcs.length qcc, .slice qa qn qc] 25))
  replace HPI := Lib.hid ((HPI.out.keeps hk4).keeps ((Keeps.refl w4).alloc (.cells #[.int .i64 q0, .int .i64 q1, .int .i64 q2, .int .i64 q3, .int .i64 q4, .int .i64 q5, .slice qca qcs.length qcc, .slice qa qn qc] 25)))
  have HQX := Lib.hid (Box.new w4 25 #[.int .i64 q0, .int .i64 q1, .int .i64 q2, .int .i64 q3, .int .i64 q4, .int .i64 q5, .slice qca qcs.length qcc, .slice qa qn qc])
  have HQI := Lib.hid (hqi.keeps ((Keeps.refl w4).alloc (.cells #[.int .i64 q0, .int .i64 q1, .int .i64 q2, .int .i64 q3, .int .i64 q4, .int .i64 q5, .slice qca qcs.length qcc, .slice qa qn qc] 25)))
  have HS4 : Hid (∀ u, RMedl.In ⟨p0, p1, p2, p3, p4, p5, .slice pca pcs.length pcc, pcs, pa, pn, pc, pxs⟩ u → RMedl.In ⟨q0, q1, q2, q3, q4, q5, .slice qca qcs.length qcc, qcs, qa, qn, qc, qxs⟩ u → Calls Try.prog 33 #[.agg #[.int .i64 p0, .int .i64 p1, .int .i64 p2, .int .i64 p3, .int .i64 p4, .int .i64 p5, .slice pca pcs.length pcc, .slice pa pn pc], .agg #[.int .i64 q0, .int .i64 q1, .int .i64 q2, .int .i64 q3, .int .i64 q4, .int .i64 q5, .slice qca qcs.length qcc, .slice qa qn qc]] u fun e w'' => e = .returned (.bool true) ∧ Keeps u w'') := Lib.hid (fun w' h1 h2 => by
    have h := rsame7_any _ _ w' h1 h2
    rw [HSM.out] at h
    exact h)
  obtain ⟨PE, hPE⟩ : ∃ PE, PE = parseErr l := ⟨_, rfl⟩
  rw [← hPE]
  have dPE : (PE == PE) = true := by simp
  clear hk4 hqi hqs HPS HSM hPE
  go_wp2_with fail
  (with_reducible refine (begun7_any _).mono ?_)
  rintro e w5 ⟨rfl, hk5⟩
  replace HK := Lib.hid (HK.out.trans hk5)
  replace HR1 := Lib.hid (HR1.out.keeps hk5)
  replace HR2 := Lib.hid (HR2.out.keeps hk5)
  replace HPX := Lib.hid (HPX.out.keeps hk5)
  replace HQX := Lib.hid (HQX.out.keeps hk5)
  replace HPI := Lib.hid (HPI.out.keeps hk5)
  replace HQI := Lib.hid (HQI.out.keeps hk5)
  clear hk5
  go_wp2_with fail
  (with_reducible refine (beq_any a1 a2 c1 c2 R R _ (by exact HR1.out) (by exact HR2.out) HL.out HL.out).mono ?_)
  rw [decide_eq_true rfl]
  rintro e w6 ⟨rfl, rfl⟩
  have lp0 := HPX.out.cell 0 _ rfl
  have lp1 := HPX.out.cell 1 _ rfl
  have lp2 := HPX.out.cell 2 _ rfl
  have lp3 := HPX.out.cell 3 _ rfl
  have lp4 := HPX.out.cell 4 _ rfl
  have lp5 := HPX.out.cell 5 _ rfl
  have lp6 := HPX.out.cell 6 _ rfl
  have lp7 := HPX.out.cell 7 _ rfl
  have lpl := HPX.out.lt
  have lq0 := HQX.out.cell 0 _ rfl
  have lq1 := HQX.out.cell 1 _ rfl
  have lq2 := HQX.out.cell 2 _ rfl
  have lq3 := HQX.out.cell 3 _ rfl
  have lq4 := HQX.out.cell 4 _ rfl
  have lq5 := HQX.out.cell 5 _ rfl
  have lq6 := HQX.out.cell 6 _ rfl
  have lq7 := HQX.out.cell 7 _ rfl
  have lql := HQX.out.lt
  go_wp2_with fail
  (with_reducible refine (HS4.out _ (by exact HPI.out) (by exact HQI.out)).mono ?_)
  rintro e w7 ⟨rfl, hk7⟩
  replace HK := Lib.hid (HK.out.trans hk7)
  clear hk7
  go_wp2_with fail
  go_ret
  exact ⟨rfl, HK.out⟩
end Go.Proofs.Ytmjodcackmjllaa
